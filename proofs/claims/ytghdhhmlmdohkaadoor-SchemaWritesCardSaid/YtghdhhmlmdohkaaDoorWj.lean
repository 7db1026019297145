/- The reference's Write. -/
import Derived.Test.YtghdhhmlmdohkaaDoorWi
import Derived.Test.YtghdhhmlmdohkaaDoorNu
import Derived.Test.YtghdhhmlmdohkaaDoorWr
namespace Go.Proofs.YtghdhhmlmdohkaaDoor
open Go Go.Den
set_option maxRecDepth 100000

abbrev vecB (b : List UInt8) : Heap := [.vec 5 (bytesE b).length]
/-- A value's text put behind another one. -/
def WrR (b : List UInt8) (a : AV) (t : List UInt8) : Prop :=
  RR none 49 [.own 0 5 (bytesE b), a] (vecB b) = some (.ret (.own 0 5 (bytesE (b ++ t))), vecB (b ++ t))
abbrev wrF (t : List E) (c i : Int) : Fr := (((((List.replicate 76 AV.undef).set 0 (.own 0 5 t)).set 3 (.ptr 1 0)).set 6 (.e (.int .u8 c))).set 7 (.e (.int .i64 i)))
def wrOut (b : List UInt8) (c : Int) : Out := { ex := .exit 1, fr := [.own 0 5 (bytesE b), AV.undef, AV.undef, AV.undef, AV.undef, AV.undef, .e (.int .u8 c)] ++ List.replicate 69 AV.undef, hp := vecB b, df := [] }

theorem room_ok {a b : Nat} (h : a + b ≤ 2000000000) : (decide (a = a) && decide ((a + b) * 1 ≤ 140737488355328)) = true := by simp; omega
def sepI (i : Nat) : List UInt8 := if i = 0 then [] else [44]
theorem sepT_cons (s t : List UInt8) (ts : List (List UInt8)) : sepT s (t :: ts) = s ++ t ++ sepT [44] ts := rfl

theorem written_loopN {k n : Int} {x : List UInt8} {ns vs : List E} {w : E → List UInt8} {c : Int} (hl : vs.length ≤ maxLen) (hk : k = 6 → ns.length = vs.length)
    (hf : ∀ v ∈ vs, ∀ b : List UInt8, b.length + (w v).length ≤ 1000000000 → WrR b (slotsV v) (w v)) :
    ∀ (j i : Nat) (b : List UInt8), i + j = vs.length → b.length + (sepT (sepI i) (itemsS w (k == 6) (ns.drop i) (vs.drop i))).length ≤ 1000000000 →
      LL 49 0 lc_49_15 (wrF (bytesE b) c i) [.vec 5 (bytesE b).length, vlC k n x ns vs] = some (wrOut (b ++ sepT (sepI i) (itemsS w (k == 6) (ns.drop i) (vs.drop i))) c) := by
  intro j
  induction j with
  | zero =>
    intro i b h _
    have : i = vs.length := by omega
    subst this
    have e : itemsS w (k == 6) (ns.drop vs.length) (vs.drop vs.length) = [] := by
      unfold itemsS
      rw [List.drop_length]
      split <;> simp
    rw [e]
    refine loop_of_body ((eq_writtenNL15 RR LL (bytesE b) c vs.length k n x ns vs).trans (cond_not (end_nat _) ?_))
    show some _ = some (wrOut (b ++ []) c)
    rw [List.append_nil]; rfl
  | succ j ih =>
    intro i b h hb
    have hi : i < vs.length := by omega
    have bl := bytesE_len b
    have step : ∀ (p : List UInt8) (ts : List (List UInt8)) (X : List E), X = bytesE (b ++ sepI i ++ p) → ts = itemsS w (k == 6) (ns.drop (i + 1)) (vs.drop (i + 1)) →
        b.length + (sepT (sepI i) ((p ++ w (vs.getD i .nili)) :: ts)).length ≤ 1000000000 →
        ((RR none 49 [.own 0 5 X, slotsV (vs.getD i .nili)] [.vec 5 X.length]).bind fun rh => bif okHeap [.vec 5 0] rh.2 then bif rh.1.isPan then none else bif rh.1.isRet && Den.okVal (.own 0 5 []) rh.1.val then
          (LL 49 0 lc_49_15 (wrF rh.1.val.data.toList c (IntKind.i64.wrap ((i : Int) + 1))) [.vec 5 (rh.2.ob 0).len, vlC k n x ns vs]).bind fun o => some o else none else none) =
          some (wrOut (b ++ sepT (sepI i) ((p ++ w (vs.getD i .nili)) :: ts)) c) := by
      rintro p ts X rfl rfl hb
      rw [sepT_cons] at hb ⊢
      simp only [List.length_append] at hb
      rw [wrap_nat hi hl]
      have e1 := hf _ (getD_mem hi) (b ++ sepI i ++ p) (by simp only [List.length_append]; omega)
      have e2 := ih (i + 1) (b ++ sepI i ++ p ++ w (vs.getD i .nili)) (by omega) (by
        rw [show sepI (i + 1) = [44] from rfl]
        simp only [List.length_append]; omega)
      rw [show sepI (i + 1) = [44] from rfl] at e2
      have e3 : b ++ sepI i ++ p ++ w (vs.getD i .nili) ++ sepT [44] (itemsS w (k == 6) (ns.drop (i + 1)) (vs.drop (i + 1))) = b ++ (sepI i ++ (p ++ w (vs.getD i .nili)) ++ sepT [44] (itemsS w (k == 6) (ns.drop (i + 1)) (vs.drop (i + 1)))) := by simp
      rw [e3] at e2
      exact bind_run e1 (cond_run rfl (cond_not rfl (cond_run rfl (bind_run e2 rfl))))
    refine loop_of_body ((eq_writtenNL15 RR LL (bytesE b) c i k n x ns vs).trans (cond_run (lt_nat hi) ?_))
    rw [at_nat]
    by_cases h6 : k = 6
    · have hin : i < ns.length := by rw [hk h6]; exact hi
      have e : itemsS w (k == 6) (ns.drop i) (vs.drop i) = (nmE (ns.getD i .nili) ++ [58] ++ w (vs.getD i .nili)) :: itemsS w (k == 6) (ns.drop (i + 1)) (vs.drop (i + 1)) := by
        unfold itemsS
        rw [eq_beq h6, if_pos rfl, if_pos rfl, drop_getD hin, drop_getD hi]; rfl
      rw [e] at hb ⊢
      have nl := bytesE_len (nmE (ns.getD i .nili))
      have hb' := hb
      rw [sepT_cons] at hb'
      simp only [List.length_append, List.length_cons, List.length_nil] at hb'
      by_cases h0 : i = 0
      · have s0 : sepI i = [] := if_pos h0
        refine cond_not (dec_no (by omega)) (cond_run (eq_beq h6) (cond_run (in_nat hin) (cond_run (room_ok ?_) (cond_run (room_ok ?_) (cond_run (in_nat hi) (step (nmE (ns.getD i .nili) ++ [58]) _ _ ?_ rfl hb))))))
        · show (bytesE b).length + (bytesE (nmE (ns.getD i .nili))).length ≤ _
          omega
        · show (bytesE b ++ bytesE (nmE (ns.getD i .nili))).length + 1 ≤ _
          rw [List.length_append]; omega
        · rw [s0, List.append_nil, ← bytesE_app, ← bytesE_app, ← List.append_assoc]; rfl
      · have s0 : sepI i = [44] := if_neg h0
        refine cond_run (dec_yes (by omega)) (cond_run (room_ok (by omega)) (cond_run (eq_beq h6) (cond_run (in_nat hin) (cond_run (room_ok ?_) (cond_run (room_ok ?_) (cond_run (in_nat hi) (step (nmE (ns.getD i .nili) ++ [58]) _ _ ?_ rfl hb)))))))
        · show (bytesE b ++ bytesE [44]).length + (bytesE (nmE (ns.getD i .nili))).length ≤ _
          rw [List.length_append, bytesE_len [44]]; simp only [List.length_cons, List.length_nil]; omega
        · show (bytesE b ++ bytesE [44] ++ bytesE (nmE (ns.getD i .nili))).length + 1 ≤ _
          rw [List.length_append, List.length_append, bytesE_len [44]]; simp only [List.length_cons, List.length_nil]; omega
        · rw [s0, ← bytesE_app, ← bytesE_app, ← bytesE_app, ← List.append_assoc]; rfl
    · have e : itemsS w (k == 6) (ns.drop i) (vs.drop i) = ([] ++ w (vs.getD i .nili)) :: itemsS w (k == 6) (ns.drop (i + 1)) (vs.drop (i + 1)) := by
        unfold itemsS
        rw [ne_beq h6, if_neg (by decide), if_neg (by decide), drop_getD hi]; rfl
      rw [e] at hb ⊢
      have hb' := hb
      rw [sepT_cons] at hb'
      simp only [List.length_append, List.length_cons, List.length_nil] at hb'
      by_cases h0 : i = 0
      · have s0 : sepI i = [] := if_pos h0
        refine cond_not (dec_no (by omega)) (cond_not (ne_beq h6) (cond_run (in_nat hi) (step [] _ _ ?_ rfl hb)))
        rw [s0, List.append_nil, List.append_nil]
      · have s0 : sepI i = [44] := if_neg h0
        refine cond_run (dec_yes (by omega)) (cond_run (room_ok (by omega)) (cond_not (ne_beq h6) (cond_run (in_nat hi) (step [] _ _ ?_ rfl hb))))
        rw [s0, List.append_nil, ← bytesE_app]; rfl

theorem written_loopO {k n : Int} {x : List UInt8} {ns vs : List E} {w : E → List UInt8} {c : Int} (hl : vs.length ≤ maxLen) (hk : k = 6 → ns.length = vs.length)
    (hf : ∀ v ∈ vs, ∀ b : List UInt8, b.length + (w v).length ≤ 1000000000 → WrR b (slotsV v) (w v)) :
    ∀ (j i : Nat) (b : List UInt8), i + j = vs.length → b.length + (sepT (sepI i) (itemsS w (k == 6) (ns.drop i) (vs.drop i))).length ≤ 1000000000 →
      LL 49 1 lc_49_15 (wrF (bytesE b) c i) [.vec 5 (bytesE b).length, vlC k n x ns vs] = some (wrOut (b ++ sepT (sepI i) (itemsS w (k == 6) (ns.drop i) (vs.drop i))) c) := by
  intro j
  induction j with
  | zero =>
    intro i b h _
    have : i = vs.length := by omega
    subst this
    have e : itemsS w (k == 6) (ns.drop vs.length) (vs.drop vs.length) = [] := by
      unfold itemsS
      rw [List.drop_length]
      split <;> simp
    rw [e]
    refine loop_of_body ((eq_writtenOL15 RR LL (bytesE b) c vs.length k n x ns vs).trans (cond_not (end_nat _) ?_))
    show some _ = some (wrOut (b ++ []) c)
    rw [List.append_nil]; rfl
  | succ j ih =>
    intro i b h hb
    have hi : i < vs.length := by omega
    have bl := bytesE_len b
    have step : ∀ (p : List UInt8) (ts : List (List UInt8)) (X : List E), X = bytesE (b ++ sepI i ++ p) → ts = itemsS w (k == 6) (ns.drop (i + 1)) (vs.drop (i + 1)) →
        b.length + (sepT (sepI i) ((p ++ w (vs.getD i .nili)) :: ts)).length ≤ 1000000000 →
        ((RR none 49 [.own 0 5 X, slotsV (vs.getD i .nili)] [.vec 5 X.length]).bind fun rh => bif okHeap [.vec 5 0] rh.2 then bif rh.1.isPan then none else bif rh.1.isRet && Den.okVal (.own 0 5 []) rh.1.val then
          (LL 49 1 lc_49_15 (wrF rh.1.val.data.toList c (IntKind.i64.wrap ((i : Int) + 1))) [.vec 5 (rh.2.ob 0).len, vlC k n x ns vs]).bind fun o => some o else none else none) =
          some (wrOut (b ++ sepT (sepI i) ((p ++ w (vs.getD i .nili)) :: ts)) c) := by
      rintro p ts X rfl rfl hb
      rw [sepT_cons] at hb ⊢
      simp only [List.length_append] at hb
      rw [wrap_nat hi hl]
      have e1 := hf _ (getD_mem hi) (b ++ sepI i ++ p) (by simp only [List.length_append]; omega)
      have e2 := ih (i + 1) (b ++ sepI i ++ p ++ w (vs.getD i .nili)) (by omega) (by
        rw [show sepI (i + 1) = [44] from rfl]
        simp only [List.length_append]; omega)
      rw [show sepI (i + 1) = [44] from rfl] at e2
      have e3 : b ++ sepI i ++ p ++ w (vs.getD i .nili) ++ sepT [44] (itemsS w (k == 6) (ns.drop (i + 1)) (vs.drop (i + 1))) = b ++ (sepI i ++ (p ++ w (vs.getD i .nili)) ++ sepT [44] (itemsS w (k == 6) (ns.drop (i + 1)) (vs.drop (i + 1)))) := by simp
      rw [e3] at e2
      exact bind_run e1 (cond_run rfl (cond_not rfl (cond_run rfl (bind_run e2 rfl))))
    refine loop_of_body ((eq_writtenOL15 RR LL (bytesE b) c i k n x ns vs).trans (cond_run (lt_nat hi) ?_))
    rw [at_nat]
    by_cases h6 : k = 6
    · have hin : i < ns.length := by rw [hk h6]; exact hi
      have e : itemsS w (k == 6) (ns.drop i) (vs.drop i) = (nmE (ns.getD i .nili) ++ [58] ++ w (vs.getD i .nili)) :: itemsS w (k == 6) (ns.drop (i + 1)) (vs.drop (i + 1)) := by
        unfold itemsS
        rw [eq_beq h6, if_pos rfl, if_pos rfl, drop_getD hin, drop_getD hi]; rfl
      rw [e] at hb ⊢
      have nl := bytesE_len (nmE (ns.getD i .nili))
      have hb' := hb
      rw [sepT_cons] at hb'
      simp only [List.length_append, List.length_cons, List.length_nil] at hb'
      by_cases h0 : i = 0
      · have s0 : sepI i = [] := if_pos h0
        refine cond_not (dec_no (by omega)) (cond_run (eq_beq h6) (cond_run (in_nat hin) (cond_run (room_ok ?_) (cond_run (room_ok ?_) (cond_run (in_nat hi) (step (nmE (ns.getD i .nili) ++ [58]) _ _ ?_ rfl hb))))))
        · show (bytesE b).length + (bytesE (nmE (ns.getD i .nili))).length ≤ _
          omega
        · show (bytesE b ++ bytesE (nmE (ns.getD i .nili))).length + 1 ≤ _
          rw [List.length_append]; omega
        · rw [s0, List.append_nil, ← bytesE_app, ← bytesE_app, ← List.append_assoc]; rfl
      · have s0 : sepI i = [44] := if_neg h0
        refine cond_run (dec_yes (by omega)) (cond_run (room_ok (by omega)) (cond_run (eq_beq h6) (cond_run (in_nat hin) (cond_run (room_ok ?_) (cond_run (room_ok ?_) (cond_run (in_nat hi) (step (nmE (ns.getD i .nili) ++ [58]) _ _ ?_ rfl hb)))))))
        · show (bytesE b ++ bytesE [44]).length + (bytesE (nmE (ns.getD i .nili))).length ≤ _
          rw [List.length_append, bytesE_len [44]]; simp only [List.length_cons, List.length_nil]; omega
        · show (bytesE b ++ bytesE [44] ++ bytesE (nmE (ns.getD i .nili))).length + 1 ≤ _
          rw [List.length_append, List.length_append, bytesE_len [44]]; simp only [List.length_cons, List.length_nil]; omega
        · rw [s0, ← bytesE_app, ← bytesE_app, ← bytesE_app, ← List.append_assoc]; rfl
    · have e : itemsS w (k == 6) (ns.drop i) (vs.drop i) = ([] ++ w (vs.getD i .nili)) :: itemsS w (k == 6) (ns.drop (i + 1)) (vs.drop (i + 1)) := by
        unfold itemsS
        rw [ne_beq h6, if_neg (by decide), if_neg (by decide), drop_getD hi]; rfl
      rw [e] at hb ⊢
      have hb' := hb
      rw [sepT_cons] at hb'
      simp only [List.length_append, List.length_cons, List.length_nil] at hb'
      by_cases h0 : i = 0
      · have s0 : sepI i = [] := if_pos h0
        refine cond_not (dec_no (by omega)) (cond_not (ne_beq h6) (cond_run (in_nat hi) (step [] _ _ ?_ rfl hb)))
        rw [s0, List.append_nil, List.append_nil]
      · have s0 : sepI i = [44] := if_neg h0
        refine cond_run (dec_yes (by omega)) (cond_run (room_ok (by omega)) (cond_not (ne_beq h6) (cond_run (in_nat hi) (step [] _ _ ?_ rfl hb))))
        rw [s0, List.append_nil, ← bytesE_app]; rfl

/-! ### texts in quotes -/

abbrev rquF (x : List UInt8) (b : List E) (i : Nat) : Fr := ((((List.replicate 51 AV.undef).set 0 (.e (.str x))).set 3 (.e (.str [48, 49, 50, 51, 52, 53, 54, 55, 56, 57, 97, 98, 99, 100, 101, 102]))).set 4 (.own 0 5 b)).set 5 (.e (.int .i64 (i : Int)))
theorem rquote_loop {x : List UInt8} (hx : x.length ≤ 100000) : ∀ (j i : Nat) (b : List UInt8), i + j = x.length → b.length + 4 * j ≤ 100000000 →
    LL 91 0 lc_91_4 (rquF x (bytesE b) i) (vecB b) = some { ex := .exit 0, fr := [AV.undef, AV.undef, AV.undef, AV.undef, .own 0 5 (bytesE (b ++ (x.drop i).flatMap escS))] ++ List.replicate 46 AV.undef, hp := vecB (b ++ (x.drop i).flatMap escS), df := [] } := by
  intro j
  induction j with
  | zero =>
    intro i b h hb
    have : i = x.length := by omega
    subst this
    rw [List.drop_length, List.flatMap_nil, List.append_nil]
    exact loop_of_body ((eq_rquoteL4 RR LL x _ (bytesE b) x.length).trans (cond_not (end_nat _) rfl))
  | succ j ih =>
    intro i b h hb
    have hi : i < x.length := by omega
    have hd' : x.drop i = x.getD i 0 :: x.drop (i + 1) := dropU hi
    rw [hd', List.flatMap_cons, ← List.append_assoc]
    have next := fun b' hb' => ih (i + 1) b' (by omega) hb'
    refine loop_of_body ((eq_rquoteL4 RR LL x _ (bytesE b) i).trans (cond_run (lt_nat hi) (cond_run (in_nat hi) ?_)))
    rw [at_nat, wrap_nat hi (by rw [maxLen_eq]; omega)]
    generalize x.getD i 0 = c at *
    have e34 : ((c.toNat : Int) == 34) = (c == 34) := u8_eq (b := 34)
    have e92 : ((c.toNat : Int) == 92) = (c == 92) := u8_eq (b := 92)
    have elo := lt_int c 32
    have ehi := lt_int 126 c
    change decide ((c.toNat : Int) < 32) = _ at elo
    change decide ((126 : Int) < (c.toNat : Int)) = _ at ehi
    have bl := bytesE_len b
    have fin : ∀ (w : List E), w = bytesE (escS c) → (escS c).length ≤ 4 →
        (bif decide ((bytesE b).length = (bytesE b).length) && decide (((bytesE b).length + w.length) * 1 ≤ 140737488355328) then (LL 91 0 lc_91_4 (rquF x (bytesE b ++ w) (i + 1)) [.vec 5 (bytesE b ++ w).length]).bind fun o => some o else none) =
        some { ex := .exit 0, fr := [AV.undef, AV.undef, AV.undef, AV.undef, .own 0 5 (bytesE (b ++ escS c ++ (x.drop (i + 1)).flatMap escS))] ++ List.replicate 46 AV.undef, hp := vecB (b ++ escS c ++ (x.drop (i + 1)).flatMap escS), df := [] } := by
      rintro w rfl h4
      refine cond_run (room_ok (by rw [bl, bytesE_len]; omega)) ?_
      rw [bytesE_app]
      exact bind_run (next (b ++ escS c) (by rw [List.length_append]; omega)) rfl
    by_cases h1 : c = 34 ∨ c = 92
    · have e : escS c = [92, c] := by unfold escS; rw [if_pos h1]
      refine cond_run ?_ (fin _ ?_ (by rw [e]; simp))
      · rw [e34, e92]
        rcases h1 with h1 | h1 <;> rw [h1] <;> rfl
      · rw [e]; rfl
    · have n1 : (bif c == 34 then true else c == 92) = false := by
        rw [beq_false_of_ne (fun h => h1 (.inl h)), beq_false_of_ne (fun h => h1 (.inr h))]; rfl
      refine cond_not (by rw [e34, e92]; exact n1) ?_
      by_cases h2 : c < 32 ∨ 126 < c
      · have e : escS c = [92, 120, hexC (c.toNat / 16), hexC (c.toNat % 16)] := by unfold escS; rw [if_neg h1, if_pos h2]
        have a1 := hex_hi ⟨c.toNat, c.toNat_lt⟩
        have a2 := hex_lo ⟨c.toNat, c.toNat_lt⟩
        obtain ⟨a3, a4⟩ := hex_in ⟨c.toNat, c.toNat_lt⟩
        simp only at a1 a2 a3 a4
        rw [a1, a2]
        refine cond_run ?_ (cond_run a3 (cond_run a4 (fin _ ?_ (by rw [e]; simp))))
        · rw [elo, ehi]
          rcases h2 with h2 | h2
          · rw [decide_eq_true h2]; rfl
          · rw [decide_eq_true h2]; cases decide (c < 32) <;> rfl
        · rw [e]; rfl
      · have e : escS c = [c] := by unfold escS; rw [if_neg h1, if_neg h2]
        refine cond_not ?_ (fin _ ?_ (by rw [e]; simp))
        · rw [elo, ehi, decide_eq_false (fun h => h2 (.inl h)), decide_eq_false (fun h => h2 (.inr h))]; rfl
        · rw [e]; rfl

theorem rquote_run {x : List UInt8} (hx : x.length ≤ 100000) : RR none 91 [str x] [] = some (.ret (.e (.sl 5 (bytesE (quotS x)))), []) := by
  have e := rquote_loop hx x.length 0 [34] (by omega) (by simp; omega)
  rw [List.drop_zero] at e
  have hq := quot_le x
  refine run_of_body ((eq_rquote RR LL x).trans (bind_run e (cond_run rfl (cond_run (by kernel_rfl) (cond_run ?_ ?_)))))
  · show (decide ((bytesE ([34] ++ x.flatMap escS)).length = (bytesE ([34] ++ x.flatMap escS)).length) && decide (((bytesE ([34] ++ x.flatMap escS)).length + 1) * 1 ≤ 140737488355328)) = true
    refine room_ok ?_
    rw [bytesE_len, List.length_append]
    simp only [List.length_singleton]
    omega
  · have e2 : bytesE ([34] ++ x.flatMap escS) ++ [E.int .u8 34] = bytesE (quotS x) := by
      have e3 : quotS x = [34] ++ x.flatMap escS ++ [34] := by unfold quotS; simp
      rw [e3, ← bytesE_app ([34] ++ x.flatMap escS)]; rfl
    exact congrArg (fun z => some (Res.ret (.e (.sl 5 z)), ([] : Heap))) e2

/-! ### values -/

theorem okBy (l : List E) : okRes PP 67 (.ret (.e (.sl 5 l))) = true := by kernel_rfl
theorem callY {β : Type} {x : Option (Res × Heap)} {l : List E} {K : Res × Heap → Option β} {r : Option β} (h : x = some (.ret (.e (.sl 5 l)), [])) (hK : K (.ret (.e (.sl 5 l)), []) = r) :
    (x.bind fun rh => bif okHeap [] rh.2 then bif okRes PP 67 rh.1 then K rh else none else none) = r :=
  bind_run h (cond_run okH (cond_run (okBy l) hK))
theorem sepT_nil : ∀ ts : List (List UInt8), sepT [] ts = Lib.join ts [44]
  | [] => rfl
  | t :: ts => by rw [sepT_cons, sep_tail, Lib.join_cons]; rfl

/-- Behind the loop over a list's elements. -/
theorem written_after {x : Option Out} {b : List UInt8} {c : UInt8} (hb : b.length ≤ 1500000000) (h : x = some (wrOut b (c.toNat : Int))) :
    (x.bind fun o => bif o.ex.isWay (Way.exit 1) then
      bif okFr ([AV.own 0 5 [], AV.undef, AV.undef, AV.undef, AV.undef, AV.undef, .e (.int .u8 0)] ++ List.replicate 69 AV.undef) o.2 && okHeap [Ob.vec 5 0] o.3 then
        bif decide ((o.hp.ob 0).len = (List.getD o.fr 0 AV.undef).data.toList.length) && decide (((List.getD o.fr 0 AV.undef).data.toList.length + [E.int .u8 (List.getD o.fr 6 AV.undef).data.toInt].length) * 1 ≤ 140737488355328) then
          some (Res.ret (.own 0 5 ((List.getD o.fr 0 AV.undef).data.toList ++ [E.int .u8 (List.getD o.fr 6 AV.undef).data.toInt])), [Ob.vec 5 ((List.getD o.fr 0 AV.undef).data.toList ++ [E.int .u8 (List.getD o.fr 6 AV.undef).data.toInt]).length])
        else none else none else none) = some (.ret (.own 0 5 (bytesE (b ++ [c]))), vecB (b ++ [c])) := by
  subst h
  refine bind_run rfl (cond_run rfl (cond_run (by kernel_rfl) (cond_run ?_ ?_)))
  · show (decide ((bytesE b).length = (bytesE b).length) && decide (((bytesE b).length + 1) * 1 ≤ 140737488355328)) = true
    exact room_ok (by rw [bytesE_len]; omega)
  · show some (Res.ret (AV.own 0 5 (bytesE b ++ [E.int .u8 (c.toNat : Int)])), [Ob.vec 5 (bytesE b ++ [E.int .u8 (c.toNat : Int)]).length]) = _
    have e2 : bytesE b ++ [E.int .u8 (c.toNat : Int)] = bytesE (b ++ [c]) := by rw [← bytesE_app]; rfl
    rw [e2]


theorem written_runO : ∀ (d : Nat) (v : E), FulV 9 38 d v → Val v → (writS d v).length ≤ 100000 → ∀ b : List UInt8, b.length + (writS d v).length ≤ 1000000000 → WrR b (slotsOf v) (writS d v)
  | 0, _, h, _, _, _, _ => by cases h
  | d + 1, v, fv, hv, hw, b, hb => by
    have bl := bytesE_len b
    rcases fv with ⟨n, rfl, n0, n1⟩ | ⟨x, rfl⟩ | rfl | rfl | ⟨vs, rfl, fe⟩ | ⟨ns, vs, rfl, hnv, asc, hns, fe⟩
    · -- a number
      have e := Number_run (n := n) (by omega) (by omega)
      have hlen := itoa_len (n := n) (by omega) (by omega)
      have il := bytesE_len (Lib.itoa n)
      refine run_of_body ((eq_writtenO RR LL (bytesE b) 1 n [] [] []).trans (cond_run rfl (callT e (cond_run ?_ ?_))))
      · exact room_ok (by show (bytesE b).length + (bytesE (Lib.itoa n)).length ≤ _; omega)
      · exact congrArg (fun z => some (Res.ret (AV.own 0 5 z), [Ob.vec 5 z.length])) (bytesE_app b (Lib.itoa n))
    · -- a text
      have e : writS (d + 1) (mkV 9 38 2 0 x [] []) = quotS x := rfl
      rw [e] at hw hb ⊢
      have hq := quotS_len x
      have il := bytesE_len (quotS x)
      refine run_of_body ((eq_writtenO RR LL (bytesE b) 2 0 x [] []).trans (cond_not rfl (cond_run rfl (callY (rquote_run (x := x) (by omega)) (cond_run ?_ ?_)))))
      · exact room_ok (by show (bytesE b).length + (bytesE (quotS x)).length ≤ _; omega)
      · exact congrArg (fun z => some (Res.ret (AV.own 0 5 z), [Ob.vec 5 z.length])) (bytesE_app b (quotS x))
    · refine run_of_body ((eq_writtenO RR LL (bytesE b) 3 0 [] [] []).trans (cond_not rfl (cond_not rfl (cond_run rfl (cond_run rfl (cond_run (room_ok (by omega)) ?_))))))
      exact congrArg (fun z => some (Res.ret (AV.own 0 5 z), [Ob.vec 5 z.length])) (bytesE_app b [102, 97, 108, 115, 101])
    · refine run_of_body ((eq_writtenO RR LL (bytesE b) 3 1 [] [] []).trans (cond_not rfl (cond_not rfl (cond_run rfl (cond_not rfl (cond_run (room_ok (by omega)) ?_))))))
      exact congrArg (fun z => some (Res.ret (AV.own 0 5 z), [Ob.vec 5 z.length])) (bytesE_app b [116, 114, 117, 101])
    · rw [writ5] at hw hb ⊢
      cases hv with
      | mk _ _ _ _ _ hx hn hnl hv hvl hk hnum =>
      have hf : ∀ v ∈ vs, ∀ b : List UInt8, b.length + (writS d v).length ≤ 1000000000 → WrR b (slotsV v) (writS d v) := fun v hm b hb => by
        rw [slotsV_eq (hv v hm)]
        have := join_mem (s := [91]) (List.mem_map_of_mem (f := writS d) hm)
        exact written_runO d v (fe v hm) (hv v hm) (by rw [List.length_append] at hw; omega) b hb
      have e := written_loopO (k := 5) (n := 0) (x := []) (c := ((93 : UInt8).toNat : Int)) (ns := []) hvl (fun h => by cases h) hf vs.length 0 (b ++ [91]) (by omega) (by
        have hi : itemsS (writS d) ((5 : Int) == 6) (([] : List E).drop 0) (vs.drop 0) = vs.map (writS d) := rfl
        rw [hi, show sepI 0 = [] from rfl, sepT_nil]
        simp only [List.length_append, List.length_cons, List.length_nil] at hw hb ⊢
        omega)
      have hi : itemsS (writS d) ((5 : Int) == 6) (([] : List E).drop 0) (vs.drop 0) = vs.map (writS d) := rfl
      rw [hi, show sepI 0 = [] from rfl, sepT_nil] at e
      refine run_of_body ((eq_writtenO RR LL (bytesE b) 5 0 [] [] vs).trans (cond_not rfl (cond_not rfl (cond_not rfl (cond_not rfl (cond_run (room_ok (by omega)) ?_))))))
      have e0 : bytesE b ++ [E.int .u8 91] = bytesE (b ++ [91]) := by rw [← bytesE_app]; rfl
      have e := (congrArg (fun z => LL 49 1 lc_49_15 (wrF z 93 (0 : Nat)) [.vec 5 z.length, vlC 5 0 [] [] vs]) e0).trans e
      have := written_after (by simp only [List.length_append, List.length_cons, List.length_nil] at hw hb ⊢; omega) e
      rw [show b ++ ([91] ++ Lib.join (vs.map (writS d)) [44] ++ [93]) = b ++ [91] ++ Lib.join (vs.map (writS d)) [44] ++ [93] by simp]
      exact this
    · rw [writ6] at hw hb ⊢
      cases hv with
      | mk _ _ _ _ _ hx hn hnl hv hvl hk hnum =>
      have hf : ∀ v ∈ vs, ∀ b : List UInt8, b.length + (writS d v).length ≤ 1000000000 → WrR b (slotsV v) (writS d v) := fun v hm b hb => by
        rw [slotsV_eq (hv v hm)]
        obtain ⟨i, hi, rfl⟩ := List.getElem_of_mem hm
        have hm2 : entT (writS d) (ns[i]'(by omega)) vs[i] ∈ List.zipWith (entT (writS d)) ns vs := by
          have hlen : i < (List.zipWith (entT (writS d)) ns vs).length := by rw [List.length_zipWith]; omega
          have := List.getElem_mem hlen
          rwa [List.getElem_zipWith] at this
        have := join_mem (s := [123]) hm2
        have h3 : (writS d vs[i]).length ≤ (entT (writS d) (ns[i]'(by omega)) vs[i]).length := by unfold entT; simp only [List.length_append]; omega
        exact written_runO d _ (fe _ hm) (hv _ hm) (by rw [List.length_append] at hw; omega) b hb
      have e := written_loopO (k := 6) (n := 0) (x := []) (c := ((125 : UInt8).toNat : Int)) (ns := ns) hvl (fun _ => hnv) hf vs.length 0 (b ++ [123]) (by omega) (by
        have hi : itemsS (writS d) ((6 : Int) == 6) (ns.drop 0) (vs.drop 0) = List.zipWith (entT (writS d)) ns vs := rfl
        rw [hi, show sepI 0 = [] from rfl, sepT_nil]
        simp only [List.length_append, List.length_cons, List.length_nil] at hw hb ⊢
        omega)
      have hi : itemsS (writS d) ((6 : Int) == 6) (ns.drop 0) (vs.drop 0) = List.zipWith (entT (writS d)) ns vs := rfl
      rw [hi, show sepI 0 = [] from rfl, sepT_nil] at e
      refine run_of_body ((eq_writtenO RR LL (bytesE b) 6 0 [] ns vs).trans (cond_not rfl (cond_not rfl (cond_not rfl (cond_run rfl (cond_run (room_ok (by omega)) ?_))))))
      have e0 : bytesE b ++ [E.int .u8 123] = bytesE (b ++ [123]) := by rw [← bytesE_app]; rfl
      have e := (congrArg (fun z => LL 49 1 lc_49_15 (wrF z 125 (0 : Nat)) [.vec 5 z.length, vlC 6 0 [] ns vs]) e0).trans e
      have := written_after (by simp only [List.length_append, List.length_cons, List.length_nil] at hw hb ⊢; omega) e
      rw [show b ++ ([123] ++ Lib.join (List.zipWith (entT (writS d)) ns vs) [44] ++ [125]) = b ++ [123] ++ Lib.join (List.zipWith (entT (writS d)) ns vs) [44] ++ [125] by simp]
      exact this

theorem written_runN : ∀ (d : Nat) (v : E), FulV 9 38 d v → Val v → (writS d v).length ≤ 100000 → RR none 49 [.nils 5, slotsOf v] [] = some (.ret (.own 0 5 (bytesE (writS d v))), vecB (writS d v))
  | 0, _, h, _, _ => by cases h
  | d + 1, v, fv, hv, hw => by
    rcases fv with ⟨n, rfl, n0, n1⟩ | ⟨x, rfl⟩ | rfl | rfl | ⟨vs, rfl, fe⟩ | ⟨ns, vs, rfl, hnv, asc, hns, fe⟩
    · -- a number
      have e := Number_run (n := n) (by omega) (by omega)
      have hlen := itoa_len (n := n) (by omega) (by omega)
      have il := bytesE_len (Lib.itoa n)
      refine run_of_body ((eq_writtenN RR LL 1 n [] [] []).trans (cond_run rfl (callT e (cond_run ?_ ?_))))
      · exact decide_eq_true (by show (bytesE (Lib.itoa n)).length * 1 ≤ _; omega)
      · rfl
    · -- a text
      have e : writS (d + 1) (mkV 9 38 2 0 x [] []) = quotS x := rfl
      rw [e] at hw ⊢
      have hq := quotS_len x
      have il := bytesE_len (quotS x)
      refine run_of_body ((eq_writtenN RR LL 2 0 x [] []).trans (cond_not rfl (cond_run rfl (callY (rquote_run (x := x) (by omega)) (cond_run ?_ ?_)))))
      · exact decide_eq_true (by show (bytesE (quotS x)).length * 1 ≤ _; omega)
      · rfl
    · refine run_of_body ((eq_writtenN RR LL 3 0 [] [] []).trans (cond_not rfl (cond_not rfl (cond_run rfl (cond_run rfl ?_)))))
      rfl
    · refine run_of_body ((eq_writtenN RR LL 3 1 [] [] []).trans (cond_not rfl (cond_not rfl (cond_run rfl (cond_not rfl ?_)))))
      rfl
    · rw [writ5] at hw ⊢
      cases hv with
      | mk _ _ _ _ _ hx hn hnl hv hvl hk hnum =>
      have hf : ∀ v ∈ vs, ∀ b : List UInt8, b.length + (writS d v).length ≤ 1000000000 → WrR b (slotsV v) (writS d v) := fun v hm b hb => by
        rw [slotsV_eq (hv v hm)]
        have := join_mem (s := [91]) (List.mem_map_of_mem (f := writS d) hm)
        exact written_runO d v (fe v hm) (hv v hm) (by rw [List.length_append] at hw; omega) b hb
      have e := written_loopN (k := 5) (n := 0) (x := []) (c := ((93 : UInt8).toNat : Int)) (ns := []) hvl (fun h => by cases h) hf vs.length 0 ([91]) (by omega) (by
        have hi : itemsS (writS d) ((5 : Int) == 6) (([] : List E).drop 0) (vs.drop 0) = vs.map (writS d) := rfl
        rw [hi, show sepI 0 = [] from rfl, sepT_nil]
        simp only [List.length_append, List.length_cons, List.length_nil] at hw ⊢
        omega)
      have hi : itemsS (writS d) ((5 : Int) == 6) (([] : List E).drop 0) (vs.drop 0) = vs.map (writS d) := rfl
      rw [hi, show sepI 0 = [] from rfl, sepT_nil] at e
      refine run_of_body ((eq_writtenN RR LL 5 0 [] [] vs).trans (cond_not rfl (cond_not rfl (cond_not rfl (cond_not rfl ?_)))))
      have := written_after (by simp only [List.length_append, List.length_cons, List.length_nil] at hw ⊢; omega) e
      exact this
    · rw [writ6] at hw ⊢
      cases hv with
      | mk _ _ _ _ _ hx hn hnl hv hvl hk hnum =>
      have hf : ∀ v ∈ vs, ∀ b : List UInt8, b.length + (writS d v).length ≤ 1000000000 → WrR b (slotsV v) (writS d v) := fun v hm b hb => by
        rw [slotsV_eq (hv v hm)]
        obtain ⟨i, hi, rfl⟩ := List.getElem_of_mem hm
        have hm2 : entT (writS d) (ns[i]'(by omega)) vs[i] ∈ List.zipWith (entT (writS d)) ns vs := by
          have hlen : i < (List.zipWith (entT (writS d)) ns vs).length := by rw [List.length_zipWith]; omega
          have := List.getElem_mem hlen
          rwa [List.getElem_zipWith] at this
        have := join_mem (s := [123]) hm2
        have h3 : (writS d vs[i]).length ≤ (entT (writS d) (ns[i]'(by omega)) vs[i]).length := by unfold entT; simp only [List.length_append]; omega
        exact written_runO d _ (fe _ hm) (hv _ hm) (by rw [List.length_append] at hw; omega) b hb
      have e := written_loopN (k := 6) (n := 0) (x := []) (c := ((125 : UInt8).toNat : Int)) (ns := ns) hvl (fun _ => hnv) hf vs.length 0 ([123]) (by omega) (by
        have hi : itemsS (writS d) ((6 : Int) == 6) (ns.drop 0) (vs.drop 0) = List.zipWith (entT (writS d)) ns vs := rfl
        rw [hi, show sepI 0 = [] from rfl, sepT_nil]
        simp only [List.length_append, List.length_cons, List.length_nil] at hw ⊢
        omega)
      have hi : itemsS (writS d) ((6 : Int) == 6) (ns.drop 0) (vs.drop 0) = List.zipWith (entT (writS d)) ns vs := rfl
      rw [hi, show sepI 0 = [] from rfl, sepT_nil] at e
      refine run_of_body ((eq_writtenN RR LL 6 0 [] ns vs).trans (cond_not rfl (cond_not rfl (cond_not rfl (cond_run rfl ?_)))))
      have := written_after (by simp only [List.length_append, List.length_cons, List.length_nil] at hw ⊢; omega) e
      exact this

end Go.Proofs.YtghdhhmlmdohkaaDoor
