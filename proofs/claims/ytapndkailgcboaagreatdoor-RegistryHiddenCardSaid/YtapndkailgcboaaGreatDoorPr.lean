/- The contracts of the functions with known results: the library's, awake, the least readers, those written out in place. -/
import Derived.Test.YtapndkailgcboaaGreatDoorAwa
import Derived.Test.YtapndkailgcboaaGreatDoorPe
import Derived.Test.YtapndkailgcboaaGreatDoorDn7
namespace Go.Proofs.YtapndkailgcboaaGreatDoor
open Go Go.Den
set_option maxRecDepth 100000

theorem mixed : Go.Proofs.Tryz.prog.follows .mixedOrders = true := Awa.mixed
theorem named : Named Go.Proofs.Tryz.prog := Awa.named

theorem index_prim : PrimFor Go.Proofs.Tryz.prog 144 indexG :=
  prim_index ⟨_, Go.Proofs.Tryz.func144, by kernel_rfl, by kernel_rfl⟩ fun s c w => Go.Proofs.Tryz.strings_IndexByte s c w

/-- The contracts under all hints. -/
theorem prims0 : PrimOk Go.Proofs.Tryz.prog HL0 := by
  intro md f g args σ r σ' h hq
  change primL0 md f = some g at h
  unfold primL0 at h
  split at h
  · cases h
  · split at h
    · injection h with h; subst h; exact Awa.awake_prim args σ r σ' hq
    · injection h with h; subst h; exact Go.Proofs.Tryz.string_prim args σ r σ' hq
    · injection h with h; subst h; exact Go.Proofs.Tryz.itoa_prim args σ r σ' hq
    · injection h with h; subst h; exact index_prim args σ r σ' hq
    · injection h with h; subst h; exact Go.Proofs.Tryz.copy_prim args σ r σ' hq
    · injection h with h; subst h; exact Go.Proofs.Tryz.split_prim args σ r σ' hq
    · injection h with h; subst h; exact Go.Proofs.Tryz.clone_prim args σ r σ' hq
    · cases h

theorem inl0 (f : FuncId) : PrimFor Go.Proofs.Tryz.prog f (inl Go.Proofs.Tryz.prog HL0 f) := prim_inl mixed named prims0 f

noncomputable abbrev RR0 : RunF := run Go.Proofs.Tryz.prog HL0
noncomputable abbrev LL0 : LoopF := loop Go.Proofs.Tryz.prog HL0

theorem getD_out {s : List UInt8} {p : Int} (h : ¬ p < (s.length : Int)) : (s.getD p.toNat 0).toNat = 0 := by
  rw [List.getD_eq_getElem?_getD, List.getElem?_eq_none (by omega)]; rfl
theorem inside {s : List UInt8} {p : Int} (h0 : 0 ≤ p) (h : p < (s.length : Int)) : (decide (0 ≤ p) && decide (p < (s.length : Int))) = true := by
  rw [decide_eq_true h0, decide_eq_true h]; rfl

theorem br_res {b : Bool} {r r' : Res} {σ σ' : Heap} (h : (T.br b (.res r σ) .fail).quick = some (r', σ')) : b = true ∧ r = r' ∧ σ = σ' := by
  rw [quick_br] at h
  cases b with
  | true =>
    have h : some (r, σ) = some (r', σ') := h
    injection h with h; injection h with h1 h2
    exact ⟨rfl, h1, h2⟩
  | false => cases h

theorem peek_prim : PrimFor Go.Proofs.Tryz.prog 117 peekG := by
  refine prim_of_run mixed named prims0 fun args σ r σ' h => ?_
  unfold peekG at h
  split at h
  · rename_i s p
    obtain ⟨hp, rfl, rfl⟩ := br_res h
    have hp : 0 ≤ p := of_decide_eq_true hp
    refine run_of_body ((eq_vpeek RR0 LL0 s p).trans ?_)
    by_cases hl : p < (s.length : Int)
    · rw [decide_eq_true hl]
      exact cond_run rfl (cond_run (by rw [decide_eq_true hp]; rfl) rfl)
    · refine cond_not (decide_eq_false hl) ?_
      unfold pk
      rw [getD_out hl]
      rfl
  · cases h

theorem is_prim : PrimFor Go.Proofs.Tryz.prog 103 isG := by
  refine prim_of_run mixed named prims0 fun args σ r σ' h => ?_
  unfold isG at h
  split at h
  · rename_i c s p x a
    obtain ⟨hp, rfl, rfl⟩ := br_res h
    have hp : 0 ≤ p := of_decide_eq_true hp
    refine run_of_body ((eq_vis RR0 LL0 s p x a c).trans ?_)
    by_cases hl : p < (s.length : Int)
    · rw [decide_eq_true hl]
      exact cond_run rfl (cond_run (by rw [decide_eq_true hp]; rfl) rfl)
    · rw [decide_eq_false hl]
      exact cond_not rfl rfl
  · cases h

theorem digit_prim : PrimFor Go.Proofs.Tryz.prog 108 digitG := by
  refine prim_of_run mixed named prims0 fun args σ r σ' h => ?_
  unfold digitG at h
  split at h
  · rename_i s p x a
    obtain ⟨hp, rfl, rfl⟩ := br_res h
    have hp : 0 ≤ p := of_decide_eq_true hp
    refine run_of_body ((eq_vdigit RR0 LL0 s p x a).trans ?_)
    by_cases hl : p < (s.length : Int)
    · rw [decide_eq_true hl, decide_eq_true hp]
      refine cond_run rfl (cond_run rfl ?_)
      show (bif decide (48 ≤ pk s p) == true then _ else _) = _
      cases h48 : decide (48 ≤ pk s p) with
      | true => exact cond_run rfl (cond_run rfl rfl)
      | false => exact cond_not rfl rfl
    · rw [decide_eq_false hl]
      refine cond_not rfl ?_
      unfold pk
      rw [getD_out hl]
      rfl
  · cases h

theorem letter_prim : PrimFor Go.Proofs.Tryz.prog 137 letterG := by
  refine prim_of_run mixed named prims0 fun args σ r σ' h => ?_
  unfold letterG at h
  split at h
  · rename_i f s p x a
    obtain ⟨hp, rfl, rfl⟩ := br_res h
    have hp : 0 ≤ p := of_decide_eq_true hp
    refine run_of_body ((eq_vletter RR0 LL0 s p x a f).trans ?_)
    by_cases hl : p < (s.length : Int)
    · refine cond_not (decide_eq_false (by omega)) (cond_run (inside hp hl) ?_)
      show (bif (bif decide (97 ≤ pk s p) then decide (pk s p ≤ 122) else false) == false then bif (!f) == true then bif decide (48 ≤ pk s p) == true then bif decide (pk s p ≤ 57) == false then some (Res.ret (.e (.bool (pk s p == 45))), _) else _ else some (Res.ret (.e (.bool (pk s p == 45))), _) else _ else _) = _
      cases decide (97 ≤ pk s p) <;> cases decide (pk s p ≤ 122) <;> cases f <;> cases decide (48 ≤ pk s p) <;> cases decide (pk s p ≤ 57) <;> rfl
    · refine cond_run (decide_eq_true (by omega)) ?_
      unfold pk
      rw [getD_out hl]
      cases f <;> rfl
  · cases h

theorem fail_prim : PrimFor Go.Proofs.Tryz.prog 96 failG := by
  refine prim_of_run mixed named prims0 fun args σ r σ' h => ?_
  unfold failG at h
  split at h
  · rename_i p c s i x a
    rw [quick_res] at h
    injection h with h; injection h with h1 h2
    subst h1; subst h2
    refine run_of_body ((eq_vfail RR0 LL0 s i x a p c).trans ?_)
    cases (x == 0) <;> rfl
  · cases h

theorem hex_prim : PrimFor Go.Proofs.Tryz.prog 136 hexG := by
  refine prim_of_run mixed named prims0 fun args σ r σ' h => ?_
  unfold hexG at h
  split at h
  · rename_i c
    rw [quick_res] at h
    injection h with h; injection h with h1 h2
    subst h1; subst h2
    refine run_of_body ((eq_vhex RR0 LL0 c).trans ?_)
    have w8 : ∀ n : Int, 0 ≤ n → n < 256 → IntKind.u8.wrap n = n := by
      intro n h0 h1
      unfold IntKind.wrap
      have : n % 256 = n := Int.emod_eq_of_lt h0 h1
      simpa [IntKind.signed, IntKind.bits] using this
    unfold hexI
    by_cases h1 : 48 ≤ c ∧ c ≤ 57
    · rw [decide_eq_true h1.1, decide_eq_true h1.2]
      refine cond_run rfl ?_
      rw [w8 _ (by omega) (by omega), wrap_in (by omega) (by omega)]
      rfl
    · have e1 : (bif decide (48 ≤ c) then decide (c ≤ 57) else false) = false := by
        by_cases h : 48 ≤ c
        · rw [decide_eq_true h, decide_eq_false (show ¬ c ≤ 57 by omega)]; rfl
        · rw [decide_eq_false h]; rfl
      have e2 : (decide (48 ≤ c) && decide (c ≤ 57)) = false := by
        by_cases h : 48 ≤ c
        · rw [decide_eq_true h, decide_eq_false (show ¬ c ≤ 57 by omega)]; rfl
        · rw [decide_eq_false h]; rfl
      rw [e2]
      refine cond_not e1 ?_
      by_cases h3 : 97 ≤ c ∧ c ≤ 102
      · rw [decide_eq_true h3.1, decide_eq_true h3.2]
        refine cond_run rfl ?_
        rw [w8 _ (by omega) (by omega), wrap_in (n := c - 97) (by omega) (by omega), wrap_in (by omega) (by omega), show c - 97 + 10 = c - 87 by omega]
        rfl
      · have e3 : (bif decide (97 ≤ c) then decide (c ≤ 102) else false) = false := by
          by_cases h : 97 ≤ c
          · rw [decide_eq_true h, decide_eq_false (show ¬ c ≤ 102 by omega)]; rfl
          · rw [decide_eq_false h]; rfl
        have e4 : (decide (97 ≤ c) && decide (c ≤ 102)) = false := by
          by_cases h : 97 ≤ c
          · rw [decide_eq_true h, decide_eq_false (show ¬ c ≤ 102 by omega)]; rfl
          · rw [decide_eq_false h]; rfl
        rw [e4]
        exact cond_not e3 rfl
  · cases h

theorem prims1 : PrimOk Go.Proofs.Tryz.prog HL1 := by
  intro md f g args σ r σ' h hq
  change primL1 md f = some g at h
  unfold primL1 at h
  split at h
  · cases h
  · split at h
    · injection h with h; subst h; exact Awa.awake_prim args σ r σ' hq
    · injection h with h; subst h; exact Go.Proofs.Tryz.string_prim args σ r σ' hq
    · injection h with h; subst h; exact Go.Proofs.Tryz.itoa_prim args σ r σ' hq
    · injection h with h; subst h; exact index_prim args σ r σ' hq
    · injection h with h; subst h; exact Go.Proofs.Tryz.copy_prim args σ r σ' hq
    · injection h with h; subst h; exact Go.Proofs.Tryz.split_prim args σ r σ' hq
    · injection h with h; subst h; exact Go.Proofs.Tryz.clone_prim args σ r σ' hq
    · injection h with h; subst h; exact inl0 _ args σ r σ' hq
    · injection h with h; subst h; exact inl0 _ args σ r σ' hq
    · injection h with h; subst h; exact inl0 _ args σ r σ' hq
    · injection h with h; subst h; exact inl0 _ args σ r σ' hq
    · injection h with h; subst h; exact inl0 _ args σ r σ' hq
    · injection h with h; subst h; exact hex_prim args σ r σ' hq
    · injection h with h; subst h; exact peek_prim args σ r σ' hq
    · injection h with h; subst h; exact is_prim args σ r σ' hq
    · injection h with h; subst h; exact digit_prim args σ r σ' hq
    · injection h with h; subst h; exact letter_prim args σ r σ' hq
    · injection h with h; subst h; exact fail_prim args σ r σ' hq
    · cases h
theorem inl1 (f : FuncId) : PrimFor Go.Proofs.Tryz.prog f (inl Go.Proofs.Tryz.prog HL1 f) := prim_inl mixed named prims1 f

theorem prims : PrimOk Go.Proofs.Tryz.prog HH := by
  intro md f g args σ r σ' h hq
  change primD md f = some g at h
  unfold primD at h
  split at h
  · cases h
  · split at h
    · injection h with h; subst h; exact Awa.awake_prim args σ r σ' hq
    · injection h with h; subst h; exact Go.Proofs.Tryz.string_prim args σ r σ' hq
    · injection h with h; subst h; exact Go.Proofs.Tryz.itoa_prim args σ r σ' hq
    · injection h with h; subst h; exact index_prim args σ r σ' hq
    · injection h with h; subst h; exact Go.Proofs.Tryz.copy_prim args σ r σ' hq
    · injection h with h; subst h; exact Go.Proofs.Tryz.split_prim args σ r σ' hq
    · injection h with h; subst h; exact Go.Proofs.Tryz.clone_prim args σ r σ' hq
    · injection h with h; subst h; exact inl0 _ args σ r σ' hq
    · injection h with h; subst h; exact inl0 _ args σ r σ' hq
    · injection h with h; subst h; exact inl0 _ args σ r σ' hq
    · injection h with h; subst h; exact inl0 _ args σ r σ' hq
    · injection h with h; subst h; exact inl0 _ args σ r σ' hq
    · injection h with h; subst h; exact hex_prim args σ r σ' hq
    · injection h with h; subst h; exact peek_prim args σ r σ' hq
    · injection h with h; subst h; exact is_prim args σ r σ' hq
    · injection h with h; subst h; exact digit_prim args σ r σ' hq
    · injection h with h; subst h; exact letter_prim args σ r σ' hq
    · injection h with h; subst h; exact fail_prim args σ r σ' hq
    · injection h with h; subst h; exact inl1 _ args σ r σ' hq
    · injection h with h; subst h; exact inl1 _ args σ r σ' hq
    · cases h

end Go.Proofs.YtapndkailgcboaaGreatDoor
