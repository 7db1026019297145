/- Modes: whether two schemas are compatible. -/
import Derived.Test.YtapndkailgcboaaGreatDoorIb
import Derived.Test.YtapndkailgcboaaGreatDoorCy
import Derived.Test.YtapndkailgcboaaGreatDoorMe
import Derived.Test.YtapndkailgcboaaGreatDoorLaw
namespace Go.Proofs.YtapndkailgcboaaGreatDoor
open Go Go.Den
set_option maxRecDepth 100000

theorem iz_yes {n : Int} (h : n = 0) : ((!(n == 0)) == false) = true := by rw [eq_beq h]; rfl
theorem iz_no {n : Int} (h : n ≠ 0) : ((!(n == 0)) == false) = false := by rw [ne_beq h]; rfl

theorem dz_yes {n u : Int} (h : n ≤ u) : (decide (n ≤ u) == false) = false := by rw [dec_yes h]; rfl
theorem dz_no {n u : Int} (h : ¬ n ≤ u) : (decide (n ≤ u) == false) = true := by rw [dec_no h]; rfl

def modeB (m : Int) (a b : E) : Bool :=
  bif m == 1 then true else bif m == 2 then incS 6 b a else bif m == 3 then incS 6 a b else bif m == 4 then (bif incS 6 b a then incS 6 a b else false) else false

theorem back_run {a b : E} (oa : okT 6 a) (ob : okT 6 b) (ha : Ty a) (hb : Ty b) : RR none 177 [.agg [], slotsOf a, slotsOf b] [] = some (.ret (yes (incS 6 b a)), []) := by
  have i := Includes_run 6 b a ob oa hb ha
  cases ha with
  | mk k mn mx os fs gs =>
  cases hb with
  | mk k' mn' mx' os' fs' gs' =>
  exact run_of_body ((eq_fBack RR LL k mn mx os fs gs k' mn' mx' os' fs' gs').trans (callB i rfl))
theorem forth_run {a b : E} (oa : okT 6 a) (ob : okT 6 b) (ha : Ty a) (hb : Ty b) : RR none 181 [.agg [], slotsOf a, slotsOf b] [] = some (.ret (yes (incS 6 a b)), []) := by
  have i := Includes_run 6 a b oa ob ha hb
  cases ha with
  | mk k mn mx os fs gs =>
  cases hb with
  | mk k' mn' mx' os' fs' gs' =>
  exact run_of_body ((eq_fForth RR LL k mn mx os fs gs k' mn' mx' os' fs' gs').trans (callB i rfl))
theorem full_run {a b : E} (oa : okT 6 a) (ob : okT 6 b) (ha : Ty a) (hb : Ty b) : RR none 182 [.agg [], slotsOf a, slotsOf b] [] = some (.ret (yes (bif incS 6 b a then incS 6 a b else false)), []) := by
  have i := Includes_run 6 b a ob oa hb ha
  have j := Includes_run 6 a b oa ob ha hb
  cases ha with
  | mk k mn mx os fs gs =>
  cases hb with
  | mk k' mn' mx' os' fs' gs' =>
  refine run_of_body ((eq_fFull RR LL k mn mx os fs gs k' mn' mx' os' fs' gs').trans (callB i ?_))
  cases h : incS 6 _ _ with
  | false => exact cond_not rfl rfl
  | true => exact cond_run rfl (callB j rfl)

theorem Comp_run (m : Int) {a b : E} (oa : okT 6 a) (ob : okT 6 b) (ha : Ty a) (hb : Ty b) : RR none 16 [num m, slotsOf a, slotsOf b] [] = some (.ret (yes (modeB m a b)), []) := by
  have r2 := back_run oa ob ha hb
  have r3 := forth_run oa ob ha hb
  have r4 := full_run oa ob ha hb
  unfold modeB
  cases ha with
  | mk k mn mx os fs gs =>
  cases hb with
  | mk k' mn' mx' os' fs' gs' =>
  have r1 : RR none 176 [.agg [], tyA k mn mx os fs gs, tyA k' mn' mx' os' fs' gs'] [] = some (.ret (yes true), []) := run_of_body (eq_fNone RR LL k mn mx os fs gs k' mn' mx' os' fs' gs')
  refine run_of_body ((eq_Comp RR LL m k mn mx os fs gs k' mn' mx' os' fs' gs').trans ?_)
  cases m == 1 with
  | true => exact cond_run rfl (callB r1 rfl)
  | false =>
  refine cond_not rfl ?_
  cases m == 2 with
  | true => exact cond_run rfl (callB r2 rfl)
  | false =>
  refine cond_not rfl ?_
  cases m == 3 with
  | true => exact cond_run rfl (callB r3 rfl)
  | false =>
  refine cond_not rfl ?_
  cases m == 4 with
  | true => exact cond_run rfl (callB r4 rfl)
  | false => exact cond_not rfl rfl

theorem RComp_run (m : Int) {a b : E} (oa : okT 6 a) (ob : okT 6 b) (ha : Ty a) (hb : Ty b) : RR none 17 [num m, slotsOf a, slotsOf b] [] = some (.ret (yes (modeB m a b)), []) := by
  have i := RIncludes_run 6 b a ob oa hb ha
  have j := RIncludes_run 6 a b oa ob ha hb
  unfold modeB
  cases ha with
  | mk k mn mx os fs gs =>
  cases hb with
  | mk k' mn' mx' os' fs' gs' =>
  refine run_of_body ((eq_RComp RR LL m k mn mx os fs gs k' mn' mx' os' fs' gs').trans ?_)
  cases m == 1 with
  | true => exact cond_run rfl rfl
  | false =>
  refine cond_not rfl ?_
  cases m == 2 with
  | true => exact cond_run rfl (callB i rfl)
  | false =>
  refine cond_not rfl ?_
  cases m == 3 with
  | true => exact cond_run rfl (callB j rfl)
  | false =>
  refine cond_not rfl ?_
  cases m == 4 with
  | true =>
    refine cond_run rfl (callB i ?_)
    cases h : incS 6 _ _ with
    | false => exact cond_not rfl rfl
    | true => exact cond_run rfl (callB j rfl)
  | false => exact cond_not rfl rfl

theorem LModes_run (m : Int) {a b : E} (ha : Ty a) (hb : Ty b) : RR none 4 [num m, slotsOf a, slotsOf b] [] = some (.ret (yes true), []) := by
  obtain ⟨u, hu⟩ := nodes_run ha 0
  obtain ⟨v, hv⟩ := nodes_run hb 0
  have ca := RCheck_run ha
  have cb := RCheck_run hb
  have oa : CheckS a = 0 → okT 6 a := fun h => (CheckS_ful h ha).okT
  have ob : CheckS b = 0 → okT 6 b := fun h => (CheckS_ful h hb).okT
  have i1 : CheckS a = 0 → CheckS b = 0 → _ := fun h k => Comp_run m (oa h) (ob k) ha hb
  have i2 : CheckS a = 0 → CheckS b = 0 → _ := fun h k => RComp_run m (oa h) (ob k) ha hb
  clear oa ob
  cases ha with
  | mk k mn mx os fs gs =>
  cases hb with
  | mk k' mn' mx' os' fs' gs' =>
  refine run_of_body ((eq_LModes RR LL m k mn mx os fs gs k' mn' mx' os' fs' gs').trans (callN hu ?_))
  by_cases hu6 : 600 ≤ u
  · exact cond_not (dz_yes hu6) rfl
  refine cond_run (dz_no hu6) (callN hv ?_)
  by_cases hv6 : 600 ≤ v
  · exact cond_not (dz_yes hv6) rfl
  refine cond_run (dz_no hv6) (callE ca ?_)
  generalize hA : (E.agg [E.int IntKind.i64 k, E.int IntKind.i64 mn, E.int IntKind.i64 mx, E.sl 9 os, E.sl 31 fs, E.sl 65 gs]) = a at *
  generalize hB : (E.agg [E.int IntKind.i64 k', E.int IntKind.i64 mn', E.int IntKind.i64 mx', E.sl 9 os', E.sl 31 fs', E.sl 65 gs']) = b at *
  by_cases za : CheckS a = 0
  · refine cond_run (iz_yes za) (callE (n := CheckS b) (by rw [← hB] at cb ⊢; exact cb) ?_)
    by_cases zb : CheckS b = 0
    · have j1 := i1 za zb
      have j2 := i2 za zb
      refine cond_not (b := !(CheckS b == 0)) (by rw [eq_beq zb]; rfl) ?_
      subst hA
      subst hB
      refine callB j1 (callB j2 ?_)
      exact congrArg (fun x : Bool => some (Res.ret (yes x), ([] : Heap))) (beq_self_eq_true (modeB m _ _))
    · exact cond_run (b := !(CheckS b == 0)) (by rw [ne_beq zb]; rfl) rfl
  · exact cond_not (iz_no za) rfl

theorem int_param {es : List E} (h : ParamTy Tryz.prog 3 es) : ∃ n, argOf Tryz.prog 3 es = num n ∧ -9223372036854775808 ≤ n ∧ n ≤ 9223372036854775807 := by
  have h := h.inv (show flat Tryz.prog depth 3 = some [3] by kernel_rfl)
  obtain ⟨x0, _, rfl, h0, h⟩ := h.cons_inv
  cases h.nil_inv
  obtain ⟨s, rfl, hl⟩ := h0.int_inv und3
  refine ⟨s, ?_, int64 hl⟩
  unfold argOf
  rw [show isAggB Tryz.prog 3 = false by kernel_rfl]
  rfl

theorem modes_law : LawRuns Tryz.prog HH 4 [3, 31, 31] := by
  refine lawRuns_of fun ess he => ?_
  obtain ⟨e0, _, rfl, h0, he⟩ := he.cons_inv
  obtain ⟨e1, _, rfl, h1, he⟩ := he.cons_inv
  obtain ⟨e2, _, rfl, h2, he⟩ := he.cons_inv
  cases he.nil_inv
  obtain ⟨n, a0, _⟩ := int_param h0
  obtain ⟨t1, a1⟩ := ty_param h1
  obtain ⟨t2, a2⟩ := ty_param h2
  simp only [List.zipWith_cons_cons, List.zipWith_nil_left, a0, a1, a2]
  exact LModes_run n t1 t2

end Go.Proofs.YtapndkailgcboaaGreatDoor
