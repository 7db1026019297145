/- A quoted text read back; LinePlain. -/
import Derived.Test.YtmocefjnplmibaaGreatDoorQc
namespace Go.Proofs.YtmocefjnplmibaaGreatDoor
open Go Go.Den
set_option maxRecDepth 100000

theorem hxd_all : ∀ k : Fin 16, hxI (digs.getD k.val 0) = (k.val : Int) := by decide +kernel

theorem unq_step (c : UInt8) (rest : List UInt8) (n : Nat) (acc : List UInt8) : unqL (n + 1) (escQ c ++ rest) acc = unqL n rest (acc ++ [c]) := by
  by_cases h1 : c = 34 ∨ c = 92
  · have hx : escQ c = [92, c] := if_pos h1
    rw [hx]
    have e : escI ([92, c] ++ rest) = ((c.toNat : Int), 2) := by
      unfold escI
      rw [if_neg (by simp)]
      show (if c = 34 ∨ c = 92 then _ else _) = _
      rw [if_pos h1]; rfl
    conv => lhs; unfold unqL
    rw [if_neg (by simp), if_neg (fun h => h rfl), e, if_neg (fun h => by cases h)]
    show unqL n rest (acc ++ [UInt8.ofNat ((c.toNat : Int)).toNat]) = _
    simp
  by_cases h2 : c = 32
  · have hx : escQ c = [92, 115] := by unfold escQ; rw [if_neg h1, if_pos h2]
    rw [hx, h2]
    have e : escI ([92, 115] ++ rest) = (32, 2) := by
      unfold escI
      rw [if_neg (by simp)]
      show (if (115 : UInt8) = 34 ∨ (115 : UInt8) = 92 then _ else _) = _
      rw [if_neg (by decide)]
      show (if (115 : UInt8) = 115 then _ else _) = _
      rw [if_pos rfl]
    conv => lhs; unfold unqL
    rw [if_neg (by simp), if_neg (fun h => h rfl), e, if_neg (fun h => by cases h)]
    rfl
  by_cases h3 : 32 < c.toNat ∧ c.toNat < 127
  · have hx : escQ c = [c] := by unfold escQ; rw [if_neg h1, if_neg h2, if_pos h3]
    rw [hx]
    conv => lhs; unfold unqL
    rw [if_neg (by simp)]
    show (if c ≠ 92 then unqL n rest (acc ++ [c]) else _) = _
    rw [if_pos (fun h => h1 (.inr h))]
  · have hx : escQ c = [92, 120, digs.getD (c.toNat / 16) 0, digs.getD (c.toNat % 16) 0] := by unfold escQ; rw [if_neg h1, if_neg h2, if_neg h3]
    rw [hx]
    have hc := c.toNat_lt
    have ha := hxd_all ⟨c.toNat / 16, by omega⟩
    have hb := hxd_all ⟨c.toNat % 16, by omega⟩
    dsimp only at ha hb
    have e : escI ([92, 120, digs.getD (c.toNat / 16) 0, digs.getD (c.toNat % 16) 0] ++ rest) = ((c.toNat : Int), 4) := by
      unfold escI
      rw [if_neg (by simp)]
      show (if (120 : UInt8) = 34 ∨ (120 : UInt8) = 92 then _ else _) = _
      rw [if_neg (by decide)]
      show (if (120 : UInt8) = 115 then _ else if (120 : UInt8) = 120 then _ else _) = _
      rw [if_neg (by decide), if_pos rfl, if_neg (by simp)]
      show (if hxI (digs.getD (c.toNat / 16) 0) < 0 ∨ hxI (digs.getD (c.toNat % 16) 0) < 0 then _ else (16 * hxI (digs.getD (c.toNat / 16) 0) + hxI (digs.getD (c.toNat % 16) 0), 4)) = _
      rw [ha, hb, if_neg (by omega)]
      congr 1
      omega
    conv => lhs; unfold unqL
    rw [if_neg (by simp), if_neg (fun h => h rfl), e, if_neg (fun h => by cases h)]
    show unqL n rest (acc ++ [UInt8.ofNat ((c.toNat : Int)).toNat]) = _
    simp
theorem unq_quo : ∀ (s : List UInt8) (n : Nat) (acc : List UInt8), s.length < n → unqL n (quoB s) acc = some (acc ++ s) := by
  intro s
  induction s with
  | nil =>
    intro n acc h
    cases n with
    | zero => omega
    | succ n => show (if ([] : List UInt8) = [] then some acc else _) = _; rw [if_pos rfl, List.append_nil]
  | cons c s ih =>
    intro n acc h
    cases n with
    | zero => omega
    | succ n =>
      show unqL (n + 1) (escQ c ++ quoB s) acc = _
      rw [unq_step, ih n _ (by simp at h; omega)]
      simp
theorem unqL_mono : ∀ (n m : Nat) (l acc : List UInt8), l.length < n → n ≤ m → unqL n l acc = unqL m l acc := by
  intro n
  induction n with
  | zero => intro m l acc h; omega
  | succ n ih =>
    intro m l acc h hm
    obtain ⟨m, rfl⟩ : ∃ q, m = q + 1 := ⟨m - 1, by omega⟩
    unfold unqL
    by_cases hl : l = []
    · rw [if_pos hl, if_pos hl]
    rw [if_neg hl, if_neg hl]
    have := List.length_pos_iff.2 hl
    by_cases h92 : l.getD 0 0 ≠ 92
    · rw [if_pos h92, if_pos h92]
      exact ih m _ _ (by rw [List.length_drop]; omega) (by omega)
    rw [if_neg h92, if_neg h92]
    by_cases h0 : (escI l).2 = 0
    · rw [if_pos h0, if_pos h0]
    rw [if_neg h0, if_neg h0]
    have k := (escI_ok l).resolve_left h0
    exact ih m _ _ (by rw [List.length_drop]; omega) (by omega)

theorem ok24 (s : List UInt8) (e : Int) : okRes PP 24 (.ret (.tup [str s, num e])) = true := by kernel_rfl
theorem strEq_self (x : List UInt8) : strEq x x = true := by simp [strEq]

theorem quoS_len (s : List UInt8) : (quoS s).length = (quoB s).length + 2 := by simp [quoS]
theorem escQ_pos (c : UInt8) : 1 ≤ (escQ c).length := by
  unfold escQ
  split
  · simp
  split
  · simp
  split <;> simp
theorem quoB_ge (s : List UInt8) : s.length ≤ (quoB s).length := by
  induction s with
  | nil => simp
  | cons c s ih =>
    have := escQ_pos c
    show _ ≤ (escQ c ++ quoB s).length
    rw [List.length_append, List.length_cons]; omega

theorem Unquote_quo {s : List UInt8} (hs : s.length ≤ 10000) : RR none 12 [str (quoS s)] [] = some (.ret (.tup [str s, num 0]), []) := by
  have hl := quoB_len s
  have hq := quoS_len s
  have hg := quoB_ge s
  refine run_of_body ((eq_Unquote RR LL (quoS s)).trans ?_)
  have ew : IntKind.i64.wrap ((quoS s).length - 1 : Int) = (((quoB s).length + 1 : Nat) : Int) := by rw [wrap_in (by omega) (by omega), hq]; omega
  rw [ew, at_nat]
  have elast : (quoS s).getD ((quoB s).length + 1) 0 = 34 := by
    unfold quoS
    rw [List.getD_eq_getElem?_getD, List.getElem?_append_right (by simp)]
    simp
  have einner : List.drop 1 (List.take ((quoB s).length + 1) (quoS s)) = quoB s := by
    unfold quoS
    rw [show (34 :: quoB s ++ [34]) = (34 :: quoB s) ++ [34] from rfl, List.take_left' (by simp)]
    rfl
  rw [elast, einner]
  have e := unquote_loop (s := quoS s) (t := quoB s) (by omega) ((quoB s).length + 1) 0 [] (by simp) (by omega) (by simp)
  rw [List.drop_zero, ← unqL_mono ((quoB s).length + 1) ((quoB s).length + 1) _ _ (by omega) (Nat.le_refl _), unq_quo s _ [] (by omega)] at e
  refine cond_run (by rw [dec_no (by omega)]; rfl) (cond_run (dec_yes (by omega)) (cond_run rfl (cond_run (by rw [dec_yes (by omega), dec_yes (by omega)]; rfl) (cond_not rfl (cond_run (by rw [dec_yes (by omega), dec_yes (by omega)]; rfl) ?_)))))
  refine bind_run e (cond_run rfl (cond_run (by kernel_rfl) (cond_run (isByte_bytesE _) ?_)))
  show ((RR none 14 [str (unbytes (bytesE ([] ++ s)))] []).bind _) = _
  rw [unbytes_bytesE]
  refine callT (Quote_run (s := [] ++ s) (by simp; omega)) (cond_not ?_ ?_)
  · show (!strEq (quoS ([] ++ s)) (quoS s)) = false
    rw [List.nil_append, strEq_self]; rfl
  · show some (Res.ret (.tup [str (unbytes (bytesE ([] ++ s))), num 0]), ([] : Heap)) = _
    rw [unbytes_bytesE]; rfl

/-! ### LinePlain -/

def fineB (b : UInt8) : Bool := decide (33 ≤ b.toNat) && decide (b.toNat ≤ 126)
def plX (s q : List UInt8) : Out := { ex := .exit 0, fr := [str s, AV.undef, AV.undef, str q] ++ List.replicate 55 AV.undef, hp := [], df := [] }
end Go.Proofs.YtmocefjnplmibaaGreatDoor
