/- Unquote: the reference's, and the program's on any text. -/
import Derived.Test.YtmocefjnplmibaaGreatDoorQd
namespace Go.Proofs.YtmocefjnplmibaaGreatDoor
open Go Go.Den
set_option maxRecDepth 100000

def rdX : Out := { ex := .exit 0, fr := List.replicate 13 AV.undef, hp := [], df := [] }
def rdR (r : Int) : Out := { ex := .ret, fr := [AV.undef, AV.undef, num r] ++ List.replicate 10 AV.undef, hp := [], df := [] }
abbrev rdF (c : Int) (i : Int) : Fr := ((List.replicate 13 AV.undef).set 0 (.e (.int .u8 c))).set 3 (.e (.int .i64 i))

theorem ib_ge : ∀ (l : List UInt8) (c : UInt8), -1 ≤ Lib.indexByte l c := by
  intro l c
  induction l with
  | nil => exact Int.le_refl (-1)
  | cons b l ih =>
    unfold Lib.indexByte
    split
    · decide
    split
    · decide
    · rename_i h1
      simp at h1
      omega
theorem rdigit_loop (c : UInt8) : ∀ (j i : Nat), i + j = 16 →
    LL 29 0 lc_29_2 (rdF (c.toNat : Int) (i : Int)) [] = some (if Lib.indexByte (digs.drop i) c == -1 then rdX else rdR ((i : Int) + Lib.indexByte (digs.drop i) c)) := by
  intro j
  induction j with
  | zero =>
    intro i h
    have : i = 16 := by omega
    subst this
    exact loop_of_body ((eq_rdigitL2 RR LL _ 16).trans rfl)
  | succ j ih =>
    intro i h
    have hi : i < digs.length := by show i < 16; omega
    have hd := dropU hi
    have body := eq_rdigitL2 RR LL (c.toNat : Int) (i : Int)
    rw [at_nat, wrap_in (by omega) (by omega)] at body
    refine loop_of_body (body.trans (cond_run (dec_yes (by omega)) (cond_run ?_ ?_)))
    · rw [dec_yes (by omega), dec_yes (show (i : Int) < 16 by omega)]; rfl
    rw [hd]
    show (bif ((digs.getD i 0).toNat : Int) == (c.toNat : Int) then some (rdR i) else (LL 29 0 lc_29_2 (rdF (c.toNat : Int) ((i : Int) + 1)) []).bind fun o => some o) = _
    by_cases e : digs.getD i 0 = c
    · have hq : Lib.indexByte (digs.getD i 0 :: digs.drop (i + 1)) c = 0 := by
        unfold Lib.indexByte; rw [e]; simp
      rw [hq, e]
      refine cond_run (by simp) ?_
      rw [if_neg (by decide), Int.add_zero]
    · have e' : ((digs.getD i 0).toNat : Int) ≠ (c.toNat : Int) := fun h => e (UInt8.toNat_inj.1 (by omega))
      have hq : Lib.indexByte (digs.getD i 0 :: digs.drop (i + 1)) c = if Lib.indexByte (digs.drop (i + 1)) c == -1 then -1 else Lib.indexByte (digs.drop (i + 1)) c + 1 := by
        conv => lhs; unfold Lib.indexByte
        rw [if_neg (show ¬ (digs.getD i 0 == c) = true by simpa using e)]
      refine cond_not (beq_false_of_ne e') ?_
      rw [hq]
      have k := ih (i + 1) (by omega)
      rw [Int.natCast_add] at k
      rw [show (i : Int) + 1 = (i : Int) + ((1 : Nat) : Int) from rfl, k]
      have hx : -1 ≤ Lib.indexByte (digs.drop (i + 1)) c := ib_ge _ _
      generalize Lib.indexByte (digs.drop (i + 1)) c = q at hx ⊢
      by_cases h1 : q = -1
      · subst h1; rfl
      · have n1 : ¬ (q == -1) = true := by simpa using h1
        have n2 : ¬ (q + 1 == -1) = true := by simp; omega
        rw [if_neg n1, if_neg n1, if_neg n2]
        show some (rdR _) = some (rdR _)
        congr 2
        show (i : Int) + 1 + q = i + (q + 1)
        omega

theorem rdigit_run (c : UInt8) : RR none 29 [.e (.int .u8 (c.toNat : Int))] [] = some (.ret (num (hxI c)), []) := by
  have e := rdigit_loop c 16 0 (by decide)
  refine run_of_body ((eq_rdigit RR LL _).trans (bind_run e ?_))
  rw [List.drop_zero]
  change _ = some (Res.ret (num (Lib.indexByte digs c)), ([] : Heap))
  by_cases h : Lib.indexByte digs c = -1
  · rw [h]; rfl
  · rw [if_neg (by simpa using h)]
    have : ((0 : Nat) : Int) + Lib.indexByte digs c = Lib.indexByte digs c := by omega
    rw [this]; rfl

def hxv (a b : UInt8) : Int := IntKind.u8.wrap (IntKind.i64.wrap (IntKind.i64.wrap (hxI a * 16) + hxI b))
/-- What the reference reads. -/
def runq : Nat → List UInt8 → List UInt8 → List UInt8
  | 0, _, acc => acc
  | n + 1, l, acc =>
    if l.length ≤ 1 then acc
    else if l.getD 0 0 = 92 then
      (if l.getD 1 0 = 115 then runq n (l.drop 2) (acc ++ [32])
       else if l.getD 1 0 = 120 ∧ 3 < l.length then runq n (l.drop 4) (acc ++ [UInt8.ofNat (hxv (l.getD 2 0) (l.getD 3 0)).toNat])
       else runq n (l.drop 2) (acc ++ [l.getD 1 0]))
    else runq n (l.drop 1) (acc ++ [l.getD 0 0])

abbrev ruF (t a : List UInt8) (i : Int) : Fr := (((List.replicate 60 AV.undef).set 0 (.e (.str t))).set 4 (.e (.str a))).set 5 (.e (.int .i64 i))
def ruX (t a : List UInt8) : Out := { ex := .exit 0, fr := [str t, AV.undef, AV.undef, AV.undef, str a] ++ List.replicate 55 AV.undef, hp := [], df := [] }
theorem getD_drop (t : List UInt8) (i k : Nat) : (t.drop i).getD k 0 = t.getD (i + k) 0 := by
  rw [List.getD_eq_getElem?_getD, List.getElem?_drop, ← List.getD_eq_getElem?_getD]
theorem isByte_hxv (a b : UInt8) : isByte (.int .u8 (hxv a b)) = true := by
  show (decide (0 ≤ hxv a b) && decide (hxv a b < 256)) = true
  unfold hxv
  rw [IntKind.wrap_u8]
  rw [dec_yes (by omega), dec_yes (by omega)]; rfl
theorem isByte_of (c : UInt8) : ([E.int IntKind.u8 (c.toNat : Int)]).all isByte = true := isByte_bytesE [c]
theorem unb_of (c : UInt8) : unbytes ([E.int IntKind.u8 (c.toNat : Int)]) = [c] := unbytes_bytesE [c]

theorem runquote_loop {t : List UInt8} (ht : t.length ≤ 100000) : ∀ (n i : Nat) (acc : List UInt8), (t.drop i).length ≤ n → acc.length ≤ i →
    LL 13 0 lc_13_3 (ruF t acc (i : Int)) [] = some (ruX t (runq n (t.drop i) acc)) := by
  intro n
  induction n using Nat.strongRecOn with
  | _ n ih =>
    intro i acc hn ha
    have hdl : (t.drop i).length = t.length - i := List.length_drop
    have body := eq_RUnquoteL3 RR LL t acc (i : Int)
    by_cases hl : i + 1 < t.length
    · rw [at_nat, wrap_in (n := (t.length : Int) - 1) (by omega) (by omega), wrap_in (n := (i : Int) + 1) (by omega) (by omega), wrap_in (n := (i : Int) + 1 + 2) (by omega) (by omega),
        wrap_in (n := (i : Int) + 1 + 1) (by omega) (by omega), wrap_in (n := (i : Int) + 1 + 2 + 1) (by omega) (by omega),
        show (i : Int) + 1 = ((i + 1 : Nat) : Int) by omega, show ((i + 1 : Nat) : Int) + 2 = ((i + 3 : Nat) : Int) by omega, show ((i + 1 : Nat) : Int) + 1 = ((i + 2 : Nat) : Int) by omega,
        show ((i + 3 : Nat) : Int) + 1 = ((i + 4 : Nat) : Int) by omega, at_nat, at_nat, at_nat, isByte_of, isByte_of, unb_of, unb_of] at body
      obtain ⟨m, rfl⟩ : ∃ m, n = m + 1 := ⟨n - 1, by omega⟩
      unfold runq
      rw [if_neg (by omega), getD_drop, getD_drop, getD_drop, getD_drop]
      have e92 := u8n (c := t.getD i 0) (n := 92) (by decide)
      have e115 := u8n (c := t.getD (i + 1) 0) (n := 115) (by decide)
      have e120 := u8n (c := t.getD (i + 1) 0) (n := 120) (by decide)
      change (((t.getD i 0).toNat : Int) == 92) = decide (t.getD i 0 = 92) at e92
      change (((t.getD (i + 1) 0).toNat : Int) == 115) = decide (t.getD (i + 1) 0 = 115) at e115
      change (((t.getD (i + 1) 0).toNat : Int) == 120) = decide (t.getD (i + 1) 0 = 120) at e120
      rw [e92, e115, e120] at body
      have step : ∀ (k : Nat) (c : UInt8), 1 ≤ k → ((LL 13 0 lc_13_3 (ruF t (acc ++ [c]) ((i + k : Nat) : Int)) []).bind fun o => some o) = some (ruX t (runq m ((t.drop i).drop k) (acc ++ [c]))) := by
        intro k c hk
        rw [List.drop_drop, ih m (by omega) (i + k) (acc ++ [c]) (by rw [List.length_drop]; omega) (by simp; omega)]
        rfl
      have size : decide (acc.length + 1 ≤ 9223372036854775807) = true := dec_yes (by omega)
      refine loop_of_body (body.trans (cond_run (dec_yes (by omega)) (cond_run (by rw [dec_yes (by omega), dec_yes (by omega)]; rfl) ?_)))
      by_cases h92 : t.getD i 0 = 92
      · rw [if_pos (show t.getD (i + 0) 0 = 92 from h92)]
        refine cond_run (dec_yes h92) (cond_run (by rw [dec_yes (by omega), dec_yes (by omega)]; rfl) ?_)
        by_cases h115 : t.getD (i + 1) 0 = 115
        · rw [if_pos h115]
          exact cond_run (dec_yes h115) (cond_run size (step 2 32 (by decide)))
        rw [if_neg h115]
        refine cond_not (dec_no h115) ?_
        by_cases h120 : t.getD (i + 1) 0 = 120
        · refine cond_run (by rw [dec_yes h120]; rfl) ?_
          by_cases h3 : i + 3 < t.length
          · rw [if_pos ⟨h120, by omega⟩]
            refine cond_run (dec_yes (by omega)) (cond_run (by rw [dec_yes (by omega), dec_yes (by omega)]; rfl) (cond_run (by rw [dec_yes (by omega), dec_yes (by omega)]; rfl) ?_))
            refine bind_run (rdigit_run _) (cond_run rfl (cond_run (by kernel_rfl) (bind_run (rdigit_run _) (cond_run rfl (cond_run (by kernel_rfl) ?_)))))
            refine cond_run ?_ (cond_run ?_ (step 4 (UInt8.ofNat (hxv (t.getD (i + 2) 0) (t.getD (i + 3) 0)).toNat) (by decide)))
            · show (isByte (.int .u8 (hxv _ _)) && true) = true
              rw [isByte_hxv]; rfl
            · exact size
          · rw [if_neg (fun h => h3 (by omega))]
            exact cond_not (dec_no (by omega)) (cond_run rfl (cond_run size (step 2 _ (by decide))))
        · rw [if_neg (fun h => h120 h.1)]
          exact cond_not (by rw [dec_no h120]; rfl) (cond_run rfl (cond_run size (step 2 _ (by decide))))
      · rw [if_neg (show ¬ t.getD (i + 0) 0 = 92 from h92)]
        exact cond_not (dec_no h92) (cond_run rfl (cond_run size (step 1 _ (by decide))))
    · have e : runq n (t.drop i) acc = acc := by
        cases n with
        | zero => rfl
        | succ n => unfold runq; rw [if_pos (by omega)]
      rw [e]
      refine loop_of_body (body.trans (cond_not ?_ rfl))
      cases t with
      | nil => exact dec_no (by show ¬ (i : Int) < IntKind.i64.wrap (0 - 1); rw [wrap_in (by omega) (by omega)]; omega)
      | cons c t => rw [wrap_in (by simp) (by simp at ht ⊢; omega)]; exact dec_no (by omega)

/-! ### .. on a quoted text -/

theorem hxv_all : ∀ a b : Fin 16, hxv (digs.getD a.val 0) (digs.getD b.val 0) = 16 * (a.val : Int) + (b.val : Int) := by decide +kernel
theorem runq_step (c : UInt8) (rest : List UInt8) (hr : 1 ≤ rest.length) (n : Nat) (acc : List UInt8) : runq (n + 1) (escQ c ++ rest) acc = runq n rest (acc ++ [c]) := by
  by_cases h1 : c = 34 ∨ c = 92
  · have hx : escQ c = [92, c] := if_pos h1
    rw [hx]
    conv => lhs; unfold runq
    have q0 : ¬ ([92, c] ++ rest).length ≤ 1 := by simp
    have q1 : ([92, c] ++ rest).getD 0 0 = 92 := rfl
    have q2 : ¬ ([92, c] ++ rest).getD 1 0 = 115 := by show ¬ c = 115; rintro rfl; revert h1; decide
    have q3 : ¬ (([92, c] ++ rest).getD 1 0 = 120 ∧ 3 < ([92, c] ++ rest).length) := by rintro ⟨h, _⟩; have h : c = 120 := h; subst h; revert h1; decide
    rw [if_neg q0, if_pos q1, if_neg q2, if_neg q3]
    rfl
  by_cases h2 : c = 32
  · have hx : escQ c = [92, 115] := by unfold escQ; rw [if_neg h1, if_pos h2]
    rw [hx, h2]
    conv => lhs; unfold runq
    have q0 : ¬ (([92, 115] : List UInt8) ++ rest).length ≤ 1 := by simp
    have q1 : ([92, 115] ++ rest).getD 0 0 = 92 := rfl
    have q2 : ([92, 115] ++ rest).getD 1 0 = 115 := rfl
    rw [if_neg q0, if_pos q1, if_pos q2]
    rfl
  by_cases h3 : 32 < c.toNat ∧ c.toNat < 127
  · have hx : escQ c = [c] := by unfold escQ; rw [if_neg h1, if_neg h2, if_pos h3]
    rw [hx]
    conv => lhs; unfold runq
    have q0 : ¬ ([c] ++ rest).length ≤ 1 := by rw [List.length_append]; show ¬ 1 + _ ≤ 1; omega
    have q1 : ¬ ([c] ++ rest).getD 0 0 = 92 := fun h => h1 (.inr h)
    rw [if_neg q0, if_neg q1]
    rfl
  · have hx : escQ c = [92, 120, digs.getD (c.toNat / 16) 0, digs.getD (c.toNat % 16) 0] := by unfold escQ; rw [if_neg h1, if_neg h2, if_neg h3]
    rw [hx]
    have hc := c.toNat_lt
    have ha := hxv_all ⟨c.toNat / 16, by omega⟩ ⟨c.toNat % 16, by omega⟩
    dsimp only at ha
    generalize digs.getD (c.toNat / 16) 0 = x at ha ⊢
    generalize digs.getD (c.toNat % 16) 0 = y at ha ⊢
    conv => lhs; unfold runq
    have q0 : ¬ ([92, 120, x, y] ++ rest).length ≤ 1 := by simp
    have q1 : ([92, 120, x, y] ++ rest).getD 0 0 = 92 := rfl
    have q2 : ¬ ([92, 120, x, y] ++ rest).getD 1 0 = 115 := by show ¬ (120 : UInt8) = 115; decide
    have q3 : ([92, 120, x, y] ++ rest).getD 1 0 = 120 ∧ 3 < ([92, 120, x, y] ++ rest).length := ⟨rfl, by simp⟩
    rw [if_neg q0, if_pos q1, if_neg q2, if_pos q3]
    show runq n rest (acc ++ [UInt8.ofNat (hxv x y).toNat]) = _
    rw [ha]
    have : (16 * ((c.toNat / 16 : Nat) : Int) + ((c.toNat % 16 : Nat) : Int)).toNat = c.toNat := by omega
    rw [this]
    simp
theorem runq_quo : ∀ (s : List UInt8) (n : Nat) (acc : List UInt8), s.length < n → runq n (quoB s ++ [34]) acc = acc ++ s := by
  intro s
  induction s with
  | nil =>
    intro n acc h
    cases n with
    | zero => omega
    | succ n => unfold runq; rw [if_pos (by simp [quoB])]; simp
  | cons c s ih =>
    intro n acc h
    cases n with
    | zero => omega
    | succ n =>
      show runq (n + 1) (escQ c ++ quoB s ++ [34]) acc = _
      rw [List.append_assoc, runq_step c _ (by simp), ih n _ (by simp at h; omega)]
      simp

/-! ### Both -/

def innerOf (t : List UInt8) : List UInt8 := (t.take (t.length - 1)).drop 1
/-- The text whose quoted text this is. -/
def unqS (t : List UInt8) : Option (List UInt8) := (unqL (t.length + 1) (innerOf t) []).bind fun a => if quoS a = t then some a else none
theorem inner_quo (s : List UInt8) : innerOf (quoS s) = quoB s := by
  unfold innerOf
  rw [quoS_len]
  unfold quoS
  rw [show (34 :: quoB s ++ [34]) = (34 :: quoB s) ++ [34] from rfl, show (quoB s).length + 2 - 1 = (34 :: quoB s).length by simp, List.take_left' rfl]
  rfl
theorem unqS_quo (s : List UInt8) : unqS (quoS s) = some s := by
  unfold unqS
  have hg := quoB_ge s
  rw [inner_quo, unq_quo s _ [] (by rw [quoS_len]; omega)]
  simp
theorem unqS_some {t a : List UInt8} (h : unqS t = some a) : quoS a = t := by
  unfold unqS at h
  cases e : unqL (t.length + 1) (innerOf t) [] with
  | none => rw [e] at h; cases h
  | some b =>
    rw [e] at h
    simp only [Option.bind_some] at h
    split at h
    · injection h with h; subst h; assumption
    · cases h
theorem unqS_none {t : List UInt8} (h : unqS t = none) (a : List UInt8) : quoS a ≠ t := fun e => by rw [← e, unqS_quo] at h; cases h
def unqA : Option (List UInt8) → AV
  | some a => .tup [str a, num 0]
  | none => .tup [str [], num 2]
theorem strEq_iff (a b : List UInt8) : strEq a b = decide (a = b) := by
  unfold strEq
  by_cases h : a = b
  · subst h; simp
  · rw [dec_no h]; simpa using h

theorem unqL_len : ∀ (n : Nat) (l acc a : List UInt8), unqL n l acc = some a → a.length ≤ acc.length + l.length := by
  intro n
  induction n with
  | zero => intro l acc a h; cases h
  | succ n ih =>
    intro l acc a h
    unfold unqL at h
    split at h
    · injection h with h; subst h; omega
    · rename_i hl
      have := List.length_pos_iff.2 hl
      split at h
      · have := ih _ _ _ h; simp at this; omega
      · split at h
        · cases h
        · rename_i h0
          have k := (escI_ok l).resolve_left h0
          have := ih _ _ _ h; simp at this; omega
theorem runq_len : ∀ (n : Nat) (l acc : List UInt8), (runq n l acc).length ≤ acc.length + l.length := by
  intro n
  induction n with
  | zero => intro l acc; unfold runq; omega
  | succ n ih =>
    intro l acc
    unfold runq
    have step : ∀ (k : Nat) (c : UInt8), 1 ≤ k → 1 < l.length → (runq n (l.drop k) (acc ++ [c])).length ≤ acc.length + l.length := by
      intro k c hk hl
      have := ih (l.drop k) (acc ++ [c])
      rw [List.length_append, List.length_drop] at this
      simp only [List.length_cons, List.length_nil] at this
      omega
    split
    · omega
    rename_i h
    split
    · split
      · exact step 2 _ (by decide) (by omega)
      split
      · exact step 4 _ (by decide) (by omega)
      · exact step 2 _ (by decide) (by omega)
    · exact step 1 _ (by decide) (by omega)

theorem RUnquote_run {t : List UInt8} (ht : t.length ≤ 10000) : RR none 13 [str t] [] = some (.ret (unqA (unqS t)), []) := by
  have e := runquote_loop (t := t) (by omega) (t.length + 1) 1 [] (by rw [List.length_drop]; omega) (by decide)
  have hlen := runq_len (t.length + 1) (t.drop 1) []
  rw [List.length_drop] at hlen
  refine run_of_body ((eq_RUnquote RR LL t).trans (bind_run e (cond_run rfl (cond_run rfl ?_))))
  show ((RR none 15 [str (runq (t.length + 1) (t.drop 1) [])] []).bind _) = _
  refine callT (RQuote_run (by rw [List.length_nil] at hlen; omega)) ?_
  show (bif !strEq (quoS (runq (t.length + 1) (t.drop 1) [])) t then some (Res.ret (.tup [str [], num 2]), ([] : Heap)) else some (Res.ret (.tup [str (runq (t.length + 1) (t.drop 1) []), num 0]), ([] : Heap))) = _
  rw [strEq_iff]
  cases h : unqS t with
  | none =>
    rw [dec_no (unqS_none h _)]; rfl
  | some a =>
    have ha := unqS_some h
    have hg := quoB_ge a
    have : runq (t.length + 1) (t.drop 1) [] = a := by
      rw [← ha]
      show runq _ (quoB a ++ [34]) [] = a
      rw [runq_quo a _ [] (by rw [quoS_len]; omega)]; rfl
    rw [this, dec_yes ha]; rfl

theorem Unquote_run {t : List UInt8} (ht : t.length ≤ 10000) : RR none 12 [str t] [] = some (.ret (unqA (unqS t)), []) := by
  cases hu : unqS t with
  | some a =>
    have ha := unqS_some hu
    have hg := quoB_ge a
    have hq := quoS_len a
    rw [← ha]
    exact Unquote_quo (by rw [← ha] at ht; omega)
  | none =>
    refine run_of_body ((eq_Unquote RR LL t).trans ?_)
    show _ = some (Res.ret (.tup [str [], num 2]), ([] : Heap))
    by_cases h2 : t.length < 2
    · exact cond_not (by rw [dec_yes (by omega)]; rfl) rfl
    have ew : IntKind.i64.wrap ((t.length : Int) - 1) = ((t.length - 1 : Nat) : Int) := by rw [wrap_in (by omega) (by omega)]; omega
    rw [ew, at_nat]
    have e34 := u8n (c := t.getD 0 0) (n := 34) (by decide)
    have f34 := u8n (c := t.getD (t.length - 1) 0) (n := 34) (by decide)
    change (((t.getD 0 0).toNat : Int) == 34) = decide (t.getD 0 0 = 34) at e34
    change (((t.getD (t.length - 1) 0).toNat : Int) == 34) = decide (t.getD (t.length - 1) 0 = 34) at f34
    rw [e34, f34]
    refine cond_run (by rw [dec_no (by omega)]; rfl) (cond_run (dec_yes (by omega)) ?_)
    by_cases h0 : t.getD 0 0 = 34
    · refine cond_run (by rw [dec_yes h0]; rfl) (cond_run (by rw [dec_yes (by omega), dec_yes (by omega)]; rfl) ?_)
      by_cases h1 : t.getD (t.length - 1) 0 = 34
      · refine cond_not (by rw [dec_yes h1]; rfl) (cond_run (by rw [dec_yes (by omega), dec_yes (by omega)]; rfl) ?_)
        have hil : (innerOf t).length ≤ t.length := by unfold innerOf; simp; omega
        have e := unquote_loop (s := t) (t := innerOf t) (by omega) (t.length + 1) 0 [] (by simp; omega) (by omega) (by simp)
        rw [List.drop_zero] at e
        refine bind_run e ?_
        cases ha : unqL (t.length + 1) (innerOf t) [] with
        | none => rfl
        | some a =>
          have hlen := unqL_len _ _ _ _ ha
          refine cond_run rfl (cond_run rfl (cond_run (isByte_bytesE a) ?_))
          show ((RR none 14 [str (unbytes (bytesE a))] []).bind _) = _
          rw [unbytes_bytesE]
          refine callT (Quote_run (by simp at hlen; omega)) (cond_run ?_ rfl)
          show (!strEq (quoS a) t) = true
          rw [strEq_iff, dec_no (unqS_none hu a)]; rfl
      · exact cond_run (by rw [dec_no h1]; rfl) rfl
    · exact cond_not (by rw [dec_no h0]; rfl) rfl

/-! ### LineQuotes -/

theorem unqA_ok (o : Option (List UInt8)) : okRes PP 24 (.ret (unqA o)) = true := by cases o <;> exact ok24 _ _
end Go.Proofs.YtmocefjnplmibaaGreatDoor
