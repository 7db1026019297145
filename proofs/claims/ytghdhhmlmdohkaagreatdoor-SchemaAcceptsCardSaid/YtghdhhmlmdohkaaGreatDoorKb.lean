/- The program's scanner: names, texts in quotes. -/
import Derived.Test.YtghdhhmlmdohkaaGreatDoorKa
namespace Go.Proofs.YtghdhhmlmdohkaaGreatDoor
open Go Go.Den
set_option maxRecDepth 100000

/-! ### name -/

theorem le_int (k : UInt8) (c : UInt8) : decide ((k.toNat : Int) ≤ (c.toNat : Int)) = decide (k ≤ c) := by
  by_cases h : k ≤ c
  · rw [decide_eq_true h]; exact dec_yes (by have := UInt8.le_iff_toNat_le.1 h; omega)
  · rw [decide_eq_false h]; exact dec_no (fun h' => h (UInt8.le_iff_toNat_le.2 (by omega)))
theorem lt_int (k : UInt8) (c : UInt8) : decide ((k.toNat : Int) < (c.toNat : Int)) = decide (k < c) := by
  by_cases h : k < c
  · rw [decide_eq_true h]; exact dec_yes (by have := UInt8.lt_iff_toNat_lt.1 h; omega)
  · rw [decide_eq_false h]; exact dec_no (fun h' => h (UInt8.lt_iff_toNat_lt.2 (by omega)))
theorem low_int (c : UInt8) : (bif decide ((97 : Int) ≤ (c.toNat : Int)) then decide ((c.toNat : Int) ≤ 122) else false) = lowC c := by
  have e1 := le_int 97 c
  have e2 := le_int c 122
  change decide ((97 : Int) ≤ (c.toNat : Int)) = _ at e1
  change decide ((c.toNat : Int) ≤ 122) = _ at e2
  rw [e1, e2, bif_and]
  rfl
theorem nam_step {α : Type} (c : UInt8) (A B : α) :
    (bif (bif decide ((97 : Int) ≤ (c.toNat : Int)) then decide ((c.toNat : Int) ≤ 122) else false) == false then
      (bif decide ((48 : Int) ≤ (c.toNat : Int)) == true then (bif bif decide ((c.toNat : Int) ≤ 57) then true else (c.toNat : Int) == 45 then A else B) else bif (c.toNat : Int) == 45 then A else B)
      else A) = bif namC c then A else B := by
  rw [low_int]
  have e1 := le_int 48 c
  have e2 := le_int c 57
  have e3 : ((c.toNat : Int) == 45) = (c == 45) := u8_eq (b := 45)
  change decide ((48 : Int) ≤ (c.toNat : Int)) = _ at e1
  change decide ((c.toNat : Int) ≤ 57) = _ at e2
  rw [e1, e2, e3]
  unfold namC digC
  cases lowC c <;> cases decide (48 ≤ c) <;> cases decide (c ≤ 57) <;> cases (c == 45) <;> rfl

theorem name_loop {s : List UInt8} {p : Int} (hs : s.length ≤ 100000) : ∀ (m : Nat) (l : List UInt8), l.length = m → l <:+ s →
    LL 135 1 lc_135_5 ((((List.replicate 53 AV.undef).set 0 (.ptr 0 0)).set 3 (.e (.int .i64 p))).set 4 (.e (.int .u8 ((hd l).toNat : Int)))) (scn s (pos s l)) =
      some { ex := .exit 0, fr := [.ptr 0 0, AV.undef, AV.undef, num p] ++ List.replicate 49 AV.undef, hp := scn s (pos s (l.dropWhile namC)), df := [] } := by
  intro m
  induction m with
  | zero =>
    intro l h hl
    have : l = [] := List.length_eq_zero_iff.1 h
    subst this
    exact loop_of_body ((eq_nameL5 RR LL s (pos s []) p _).trans ((nam_step _ _ _).trans (cond_not rfl rfl)))
  | succ m ih =>
    intro l h hl
    refine loop_of_body ((eq_nameL5 RR LL s (pos s l) p _).trans ((nam_step _ _ _).trans ?_))
    cases hd1 : namC (hd l) with
    | false =>
      obtain ⟨_, t2⟩ := takeWhile_no hd1
      rw [t2]; rfl
    | true =>
      obtain ⟨_, t2, nz, ne⟩ := takeWhile_hd (by decide) hd1
      obtain ⟨st1, st2⟩ := pos_step hl hs nz
      have hm : (l.drop 1).length = m := by rw [List.length_drop]; omega
      rw [t2, st1, pk_pos st2, pos_ge st2]
      exact bind_run (ih (l.drop 1) hm st2) rfl

theorem cut_pos {s l r : List UInt8} (hl : l <:+ s) (hr : r <:+ l) : List.drop (pos s l).toNat (List.take (pos s r).toNat s) = l.take (l.length - r.length) := by
  have h1 := hl.length_le
  have h2 := hr.length_le
  rw [pos_nat hl, pos_nat (hr.trans hl), at_nat, at_nat, List.drop_take, suffix_drop hl]
  congr 1; omega
theorem takeWhile_cut (p : UInt8 → Bool) (l : List UInt8) : l.take (l.length - (l.dropWhile p).length) = l.takeWhile p := by
  have e := List.takeWhile_append_dropWhile (p := p) (l := l)
  generalize l.takeWhile p = a at e ⊢
  generalize l.dropWhile p = b at e ⊢
  subst e
  simp

theorem name_run {s l : List UInt8} (hs : s.length ≤ 100000) (hl : l <:+ s) : Reads (RR none 135 [.ptr 0 0] (scn s (pos s l))) s str (wordL l) := by
  refine reads_of (eq_name RR LL s (pos s l)) (condR (pos_ge hl) ?_)
  rw [pk_pos hl, low_int]
  unfold wordL
  cases hlo : lowC (hd l) with
  | false => exact condR rfl ⟨hl, _, rfl⟩
  | true =>
    refine condR' rfl (condR (pos_ge hl) ?_)
    have hsuf : l.dropWhile namC <:+ l := List.dropWhile_suffix namC
    refine ⟨hsuf.trans hl, bind_run (name_loop hs l.length l rfl hl) (cond_run rfl (cond_run rfl ((cond_run ?_ ?_))))⟩
    · have h1 := (hsuf.trans hl).length_le
      have h2 := hsuf.length_le
      have h3 := hl.length_le
      show (decide (0 ≤ pos s l) && decide (pos s l ≤ pos s (l.dropWhile namC)) && decide (pos s (l.dropWhile namC) ≤ (s.length : Int))) = true
      unfold pos
      simp
      omega
    · show some (Res.ret (str (List.drop (pos s l).toNat (List.take (pos s (l.dropWhile namC)).toNat s))), scn s (pos s (l.dropWhile namC))) = _
      rw [cut_pos hl hsuf, takeWhile_cut]

/-! ### hex -/

theorem hex_all : ∀ k : Fin 256, Lib.indexByte ([48, 49, 50, 51, 52, 53, 54, 55, 56, 57, 97, 98, 99, 100, 101, 102] : List UInt8) (UInt8.ofNat k.val) = (match hexV (UInt8.ofNat k.val) with | some v => (v : Int) | none => -1) := by decide +kernel
theorem hex_of (c : UInt8) : Lib.indexByte ([48, 49, 50, 51, 52, 53, 54, 55, 56, 57, 97, 98, 99, 100, 101, 102] : List UInt8) c = (match hexV c with | some v => (v : Int) | none => -1) := by
  have := hex_all ⟨c.toNat, c.toNat_lt⟩
  simpa using this
theorem hexV_lt {c : UInt8} {v : Nat} (h : hexV c = some v) : v < 16 ∧ c ≠ 0 := by
  unfold hexV at h
  split at h
  · rename_i hc
    injection h with h
    have h1 := UInt8.le_iff_toNat_le.1 hc.1
    have h2 := UInt8.le_iff_toNat_le.1 hc.2
    have h1 : 48 ≤ c.toNat := h1
    have h2 : c.toNat ≤ 57 := h2
    refine ⟨by omega, fun e => by rw [e] at h1; revert h1; decide⟩
  · split at h
    · rename_i hc
      injection h with h
      have h1 : 97 ≤ c.toNat := UInt8.le_iff_toNat_le.1 hc.1
      have h2 : c.toNat ≤ 102 := UInt8.le_iff_toNat_le.1 hc.2
      refine ⟨by omega, fun e => by rw [e] at h1; revert h1; decide⟩
    · cases h

abbrev u8A (v : Nat) : AV := .e (.int .u8 (v : Int))
theorem hex_run {s l : List UInt8} (hs : s.length ≤ 100000) (hl : l <:+ s) : Reads (RR none 166 [.ptr 0 0] (scn s (pos s l))) s u8A (hexL l) := by
  refine reads_of (eq_hex RR LL s (pos s l)) (condR (pos_ge hl) ?_)
  have e : (pk s (pos s l)).toNat.toUInt8 = hd l := by rw [pk_pos hl]; simp
  rw [e, hex_of]
  unfold hexL
  cases hv : hexV (hd l) with
  | none => exact condR rfl ⟨hl, _, rfl⟩
  | some v =>
    obtain ⟨h1, h2⟩ := hexV_lt hv
    obtain ⟨st1, st2⟩ := pos_step hl hs h2
    refine condR' (dec_no (by simp only; omega)) ⟨st2, ?_⟩
    rw [st1]
    show some (Res.ret (.e (.int .u8 (IntKind.u8.wrap (v : Int)))), _) = _
    have : IntKind.u8.wrap (v : Int) = v := by
      unfold IntKind.wrap
      have : ((v : Int) % 256) = v := Int.emod_eq_of_lt (by omega) (by omega)
      simpa [IntKind.signed, IntKind.bits] using this
    rw [this]

/-! ### quoted -/

theorem or_all : ∀ a b : Fin 16, IntKind.u8.wrap ((((BitVec.ofInt 8 (IntKind.u8.wrap ((a.val : Int) * 2 ^ 4)) ||| BitVec.ofInt 8 (b.val : Int)).toNat : Nat)) : Int) = ((16 * a.val + b.val : Nat) : Int) := by decide +kernel
theorem or_of {a b : Nat} (ha : a < 16) (hb : b < 16) : IntKind.u8.wrap ((((BitVec.ofInt 8 (IntKind.u8.wrap ((a : Int) * 2 ^ 4)) ||| BitVec.ofInt 8 (b : Int)).toNat : Nat)) : Int) = ((16 * a + b : Nat) : Int) := or_all ⟨a, ha⟩ ⟨b, hb⟩

theorem bytesE_snoc (a : List UInt8) (c : UInt8) : bytesE a ++ [.int .u8 (c.toNat : Int)] = bytesE (a ++ [c]) := by
  simp [bytesE]
theorem bytesE_len (a : List UInt8) : (bytesE a).length = a.length := by simp [bytesE]

abbrev quotH (s : List UInt8) (p : Int) (acc : List E) : Heap := [scnO s p, .box [.nsp 1 107, .own 2 5 acc], .vec 5 acc.length]
abbrev quotF : Fr := ((List.replicate 87 AV.undef).set 0 (.ptr 0 0)).set 3 (.ptr 1 0)
def quotO (s : List UInt8) (acc : List UInt8) (l : List UInt8) : Out := { ex := .exit 0, fr := [AV.undef, AV.undef, AV.undef, .ptr 1 0] ++ List.replicate 83 AV.undef, hp := quotH s (pos s l) (bytesE acc), df := [] }

theorem hexL_ok {l r : List UInt8} {v : Nat} (h : hexL l = .ok v r) : v < 16 ∧ r.length < l.length := by
  unfold hexL at h
  cases hv : hexV (hd l) with
  | none => rw [hv] at h; cases h
  | some w =>
    rw [hv] at h
    injection h with h1 h2
    obtain ⟨h3, h4⟩ := hexV_lt hv
    refine ⟨by omega, ?_⟩
    rw [← h2]
    cases l with
    | nil => exact absurd rfl h4
    | cons c l => simp

theorem drop_less {l : List UInt8} (h : hd l ≠ 0) : (l.drop 1).length < l.length := by
  cases l with
  | nil => exact absurd rfl h
  | cons c l => simp

theorem quoted_loop {s : List UInt8} (hs : s.length ≤ 100000) : ∀ (n : Nat) (l acc : List UInt8), l.length < n → l <:+ s → acc.length + l.length ≤ s.length →
    ReadsO 87 (LL 145 1 lc_145_3 quotF (quotH s (pos s l) (bytesE acc))) s (quotO s) (quotL n acc l) := by
  intro n
  induction n with
  | zero => intro l acc h; exact absurd h (by omega)
  | succ n ih =>
    intro l acc hn hl hacc
    -- one byte more
    have step : ∀ (c : UInt8) (l' : List UInt8) (p' v : Int), p' = pos s l' → v = (c.toNat : Int) → l' <:+ s → l'.length < l.length →
        ReadsO 87 (bif decide ((bytesE acc).length = (bytesE acc).length) && decide (((bytesE acc).length + ((5, [E.int IntKind.u8 v]) : TypeId × List E).snd.length) * 1 ≤ 140737488355328) then
          (LL 145 1 lc_145_3 quotF (quotH s p' ((bytesE acc) ++ ((5, [E.int IntKind.u8 v]) : TypeId × List E).snd))).bind fun o => some o else none) s (quotO s) (quotL n (acc ++ [c]) l') := by
      rintro c l' p' v rfl rfl h' hlt
      refine condO ?_ (readsO_bind ?_)
      · rw [bytesE_len]; simp; omega
      · show ReadsO 87 (LL 145 1 lc_145_3 quotF (quotH s (pos s l') (bytesE acc ++ [.int .u8 (c.toNat : Int)]))) s _ _
        rw [bytesE_snoc]
        exact ih l' (acc ++ [c]) (by omega) h' (by simp; omega)
    refine readsO_of (eq_quotedL3 RR LL s (pos s l) (bytesE acc)) (condO (pos_ge hl) ?_)
    rw [pk_pos hl]
    unfold quotL
    by_cases h34 : hd l = 34
    · rw [if_pos h34]
      obtain ⟨st1, st2⟩ := pos_step hl hs (by rw [h34]; decide)
      rw [st1]
      refine condO' (by rw [h34]; rfl) ⟨st2, rfl⟩
    rw [if_neg h34]
    refine condO (by rw [show (((hd l).toNat : Int) == 34) = (hd l == 34) from u8_eq (b := 34), beq_false_of_ne h34]; rfl) (condO (pos_ge hl) ?_)
    by_cases hr : hd l < 32 ∨ 126 < hd l
    · rw [if_pos hr]
      refine condO ?_ ⟨hl, _, rfl⟩
      have e1 := lt_int (hd l) 32
      have e2 := lt_int 126 (hd l)
      change decide (((hd l).toNat : Int) < 32) = _ at e1
      change decide ((126 : Int) < ((hd l).toNat : Int)) = _ at e2
      rw [e1, e2]
      rcases hr with hr | hr
      · rw [decide_eq_true hr]; rfl
      · rw [decide_eq_true hr]; cases decide (hd l < 32) <;> rfl
    rw [if_neg hr]
    have hnz : hd l ≠ 0 := fun e => hr (.inl (by rw [e]; decide))
    obtain ⟨st1, st2⟩ := pos_step hl hs hnz
    have hless := drop_less hnz
    refine condO' ?_ ?_
    · have e1 := lt_int (hd l) 32
      have e2 := lt_int 126 (hd l)
      change decide (((hd l).toNat : Int) < 32) = _ at e1
      change decide ((126 : Int) < ((hd l).toNat : Int)) = _ at e2
      rw [e1, e2, decide_eq_false (fun h => hr (.inl h)), decide_eq_false (fun h => hr (.inr h))]; rfl
    by_cases h92 : hd l ≠ 92
    · rw [if_pos h92]
      refine condO (by rw [show (((hd l).toNat : Int) == 92) = (hd l == 92) from u8_eq (b := 92), beq_false_of_ne h92]; rfl) ?_
      exact step (hd l) (l.drop 1) _ _ st1 rfl st2 hless
    rw [if_neg h92]
    have h92 : hd l = 92 := Classical.byContradiction h92
    refine condO' (by rw [h92]; rfl) ?_
    rw [st1, pk_pos st2]
    refine condO (pos_ge st2) ?_
    have eqb : ∀ b : UInt8, (((hd (l.drop 1)).toNat : Int) == (b.toNat : Int)) = (hd (l.drop 1) == b) := fun b => u8_eq
    have e34 := eqb 34
    have e92 := eqb 92
    have e120 := eqb 120
    change (((hd (l.drop 1)).toNat : Int) == 34) = _ at e34
    change (((hd (l.drop 1)).toNat : Int) == 92) = _ at e92
    change (((hd (l.drop 1)).toNat : Int) == 120) = _ at e120
    rw [e34, e92, e120]
    by_cases k34 : hd (l.drop 1) = 34
    · rw [if_pos (.inl k34), k34]
      obtain ⟨st3, st4⟩ := pos_step st2 hs (by rw [k34]; decide)
      have := drop_less (l := l.drop 1) (by rw [k34]; decide)
      refine condO rfl (condO rfl ?_)
      exact step 34 ((l.drop 1).drop 1) _ _ st3 rfl st4 (by omega)
    by_cases k92 : hd (l.drop 1) = 92
    · rw [if_pos (.inr k92), k92]
      obtain ⟨st3, st4⟩ := pos_step st2 hs (by rw [k92]; decide)
      have := drop_less (l := l.drop 1) (by rw [k92]; decide)
      refine condO' rfl (condO rfl ?_)
      exact step 92 ((l.drop 1).drop 1) _ _ st3 rfl st4 (by omega)
    rw [if_neg (fun h => h.elim k34 k92), beq_false_of_ne k34, beq_false_of_ne k92]
    refine condO' rfl (condO' rfl ?_)
    by_cases k120 : hd (l.drop 1) = 120
    · rw [if_pos k120, k120]
      obtain ⟨st3, st4⟩ := pos_step st2 hs (by rw [k120]; decide)
      have := drop_less (l := l.drop 1) (by rw [k120]; decide)
      refine condO rfl ?_
      rw [st3]
      refine thenO (hex_run hs st4) (fun a => rfl) (fun v q => rfl) ?_
      intro a l2 ha hl2
      obtain ⟨a1, a2⟩ := hexL_ok ha
      refine thenO (hex_run hs hl2) (fun a => rfl) (fun v q => rfl) ?_
      intro b l3 hb hl3
      obtain ⟨b1, b2⟩ := hexL_ok hb
      show ReadsO 87 (bif bif decide (32 ≤ IntKind.u8.wrap ((((BitVec.ofInt 8 (IntKind.u8.wrap ((a : Int) * 2 ^ 4)) ||| BitVec.ofInt 8 (b : Int)).toNat : Nat)) : Int)) then decide (IntKind.u8.wrap ((((BitVec.ofInt 8 (IntKind.u8.wrap ((a : Int) * 2 ^ 4)) ||| BitVec.ofInt 8 (b : Int)).toNat : Nat)) : Int) ≤ 126) else false then _ else
        bif decide ((bytesE acc).length = (bytesE acc).length) && decide (((bytesE acc).length + ((5, [E.int IntKind.u8 (IntKind.u8.wrap ((((BitVec.ofInt 8 (IntKind.u8.wrap ((a : Int) * 2 ^ 4)) ||| BitVec.ofInt 8 (b : Int)).toNat : Nat)) : Int))]) : TypeId × List E).snd.length) * 1 ≤ 140737488355328) then
          (LL 145 1 lc_145_3 quotF (quotH s (pos s l3) ((bytesE acc) ++ ((5, [E.int IntKind.u8 (IntKind.u8.wrap ((((BitVec.ofInt 8 (IntKind.u8.wrap ((a : Int) * 2 ^ 4)) ||| BitVec.ofInt 8 (b : Int)).toNat : Nat)) : Int))]) : TypeId × List E).snd))).bind fun o => some o else none) s (quotO s) _
      rw [or_of a1 b1]
      by_cases hpr : 32 ≤ 16 * a + b ∧ 16 * a + b ≤ 126
      · rw [if_pos hpr]
        refine condO ?_ ⟨hl, _, rfl⟩
        rw [dec_yes (by omega), dec_yes (by omega)]; rfl
      · rw [if_neg hpr]
        refine condO' ?_ (step (UInt8.ofNat (16 * a + b)) l3 _ _ rfl ?_ hl3 (by omega))
        · by_cases h : 32 ≤ 16 * a + b
          · rw [dec_yes (by omega), dec_no (by omega)]; rfl
          · rw [dec_no (by omega)]; rfl
        · have : (UInt8.ofNat (16 * a + b)).toNat = 16 * a + b := by
            rw [UInt8.toNat_ofNat']; omega
          rw [this]
    · rw [if_neg k120, beq_false_of_ne k120]
      exact condO' rfl ⟨st2, _, rfl⟩

theorem needL_run {s l : List UInt8} (hs : s.length ≤ 100000) {w : List UInt8} (hl : l <:+ s) (hw : w.length ≤ 100000 := by decide) (h0 : ∀ c ∈ w, c ≠ 0 := by decide) :
    Reads (RR none 133 [.ptr 0 0, str w] (scn s (pos s l))) s (fun _ : Unit => .tup []) (needL w l) := need_run hs hw h0 hl

theorem quotL_le : ∀ (n : Nat) (acc l x r : List UInt8), quotL n acc l = .ok x r → x.length + r.length ≤ acc.length + l.length := by
  intro n
  induction n with
  | zero => intro acc l x r h; cases h
  | succ n ih =>
    intro acc l x r h
    unfold quotL at h
    split at h
    · rename_i h34
      injection h with h1 h2
      have := drop_less (l := l) (by rw [h34]; decide)
      rw [← h1, ← h2]; omega
    split at h
    · cases h
    rename_i hr
    have hnz : hd l ≠ 0 := fun e => hr (.inl (by rw [e]; decide))
    have l1 := drop_less hnz
    split at h
    · have := ih _ _ _ _ h
      simp only [List.length_append, List.length_singleton] at this
      omega
    split at h
    · rename_i hc
      have := ih _ _ _ _ h
      have l2 := drop_less (l := l.drop 1) (by rcases hc with hc | hc <;> rw [hc] <;> decide)
      simp only [List.length_append, List.length_singleton] at this
      omega
    split at h
    · rename_i hc
      have l2 := drop_less (l := l.drop 1) (by rw [hc]; decide)
      cases h1 : hexL ((l.drop 1).drop 1) with
      | err e r => rw [h1] at h; cases h
      | ok a r1 =>
        rw [h1, PR.ok_then] at h
        cases h2 : hexL r1 with
        | err e r => rw [h2] at h; cases h
        | ok b r2 =>
          rw [h2, PR.ok_then] at h
          have := (hexL_ok h1).2
          have := (hexL_ok h2).2
          split at h
          · cases h
          · have := ih _ _ _ _ h
            simp only [List.length_append, List.length_singleton] at this
            omega
    · cases h

theorem quoted_run {s l : List UInt8} (hs : s.length ≤ 100000) (hl : l <:+ s) (h34 : hd l = 34) : Reads (RR none 145 [.ptr 0 0] (scn s (pos s l))) s str (quotL (l.drop 1).length.succ [] (l.drop 1)) := by
  have hlen := hl.length_le
  have hless := drop_less (l := l) (by rw [h34]; decide)
  have e0 : (quotL (l.drop 1).length.succ [] (l.drop 1)) = (needL [34] l).andThen fun _ l => quotL l.length.succ [] l := by
    unfold needL
    rw [if_pos h34]; rfl
  rw [e0]
  refine reads_of (eq_quoted RR LL s (pos s l)) (thenR (needL_run hs hl) (fun a => rfl) (fun v q => rfl) ?_)
  intro _ l1 h1 hl1
  have hlen1 := hl1.length_le
  have e := quoted_loop hs l1.length.succ l1 [] (by omega) hl1 (by simpa using hlen1)
  cases hq : quotL l1.length.succ [] l1 with
  | ok x r =>
    rw [hq] at e
    have hle := quotL_le _ _ _ _ _ hq
    simp only [List.length_nil, Nat.zero_add] at hle
    refine ⟨e.1, bind_run e.2 (cond_run rfl (cond_run ?_ (cond_run ?_ ?_)))⟩
    · kernel_rfl
    · show (decide ((bytesE x).length = (bytesE x).length) && (bytesE x).all isByte && decide ((bytesE x).length ≤ 9223372036854775807)) = true
      rw [isByte_bytesE, bytesE_len]
      simp; omega
    · show some (Res.ret (str (unbytes (bytesE x))), scn s (pos s r)) = _
      rw [unbytes_bytesE]
  | err c r =>
    rw [hq] at e
    obtain ⟨e1, q, e2⟩ := e
    exact ⟨e1, q, bind_run e2 (cond_not rfl (cond_run rfl (cond_run rfl rfl)))⟩

end Go.Proofs.YtghdhhmlmdohkaaGreatDoor
