/- Modes: whether two schemas are compatible. -/
import Derived.Test.YtapndkailgcboaaGreatDoorIb
import Derived.Test.YtapndkailgcboaaGreatDoorCy
import Derived.Test.YtapndkailgcboaaGreatDoorMe
import Derived.Test.YtapndkailgcboaaGreatDoorLaw
namespace Go.Proofs.YtapndkailgcboaaGreatDoor
open Go Go.Den
set_option maxRecDepth 100000

def modeB (m : Int) (a b : E) : Bool :=
  bif m == 1 then true else bif m == 2 then incS 6 b a else bif m == 3 then incS 6 a b else bif m == 4 then (bif incS 6 b a then incS 6 a b else false) else false

theorem back_run {a b : E} (oa : okT 6 a) (ob : okT 6 b) (ha : Ty a) (hb : Ty b) : RR none 177 [.agg [], slotsOf a, slotsOf b] [] = some (.ret (yes (incS 6 b a)), []) := by
  have i := Includes_run 6 b a ob oa hb ha
  cases ha with
  | mk k mn mx os fs gs =>
  cases hb with
  | mk k' mn' mx' os' fs' gs' =>
  exact run_of_body ((eq_fBack RR LL k mn mx os fs gs k' mn' mx' os' fs' gs').trans (callB i rfl))
theorem forth_run {a b : E} (oa : okT 6 a) (ob : okT 6 b) (ha : Ty a) (hb : Ty b) : RR none 181 [.agg [], slotsOf a, slotsOf b] [] = some (.ret (yes (incS 6 a b)), []) := by
  have i := Includes_run 6 a b oa ob ha hb
  cases ha with
  | mk k mn mx os fs gs =>
  cases hb with
  | mk k' mn' mx' os' fs' gs' =>
  exact run_of_body ((eq_fForth RR LL k mn mx os fs gs k' mn' mx' os' fs' gs').trans (callB i rfl))
theorem full_run {a b : E} (oa : okT 6 a) (ob : okT 6 b) (ha : Ty a) (hb : Ty b) : RR none 182 [.agg [], slotsOf a, slotsOf b] [] = some (.ret (yes (bif incS 6 b a then incS 6 a b else false)), []) := by
  have i := Includes_run 6 b a ob oa hb ha
  have j := Includes_run 6 a b oa ob ha hb
  cases ha with
  | mk k mn mx os fs gs =>
  cases hb with
  | mk k' mn' mx' os' fs' gs' =>
  refine run_of_body ((eq_fFull RR LL k mn mx os fs gs k' mn' mx' os' fs' gs').trans (callB i ?_))
  cases h : incS 6 _ _ with
  | false => exact cond_not rfl rfl
  | true => exact cond_run rfl (callB j rfl)

theorem Comp_run (m : Int) {a b : E} (oa : okT 6 a) (ob : okT 6 b) (ha : Ty a) (hb : Ty b) : RR none 16 [num m, slotsOf a, slotsOf b] [] = some (.ret (yes (modeB m a b)), []) := by
  have r2 := back_run oa ob ha hb
  have r3 := forth_run oa ob ha hb
  have r4 := full_run oa ob ha hb
  unfold modeB
  cases ha with
  | mk k mn mx os fs gs =>
  cases hb with
  | mk k' mn' mx' os' fs' gs' =>
  have r1 : RR none 176 [.agg [], tyA k mn mx os fs gs, tyA k' mn' mx' os' fs' gs'] [] = some (.ret (yes true), []) := run_of_body (eq_fNone RR LL k mn mx os fs gs k' mn' mx' os' fs' gs')
  refine run_of_body ((eq_Comp RR LL m k mn mx os fs gs k' mn' mx' os' fs' gs').trans ?_)
  cases m == 1 with
  | true => exact cond_run rfl (callB r1 rfl)
  | false =>
  refine cond_not rfl ?_
  cases m == 2 with
  | true => exact cond_run rfl (callB r2 rfl)
  | false =>
  refine cond_not rfl ?_
  cases m == 3 with
  | true => exact cond_run rfl (callB r3 rfl)
  | false =>
  refine cond_not rfl ?_
  cases m == 4 with
  | true => exact cond_run rfl (callB r4 rfl)
  | false => exact cond_not rfl rfl

theorem RComp_run (m : Int) {a b : E} (oa : okT 6 a) (ob : okT 6 b) (ha : Ty a) (hb : Ty b) : RR none 17 [num m, slotsOf a, slotsOf b] [] = some (.ret (yes (modeB m a b)), []) := by
  have i := RIncludes_run 6 b a ob oa hb ha
  have j := RIncludes_run 6 a b oa ob ha hb
  unfold modeB
  cases ha with
  | mk k mn mx os fs gs =>
  cases hb with
  | mk k' mn' mx' os' fs' gs' =>
  refine run_of_body ((eq_RComp RR LL m k mn mx os fs gs k' mn' mx' os' fs' gs').trans ?_)
  cases m == 1 with
  | true => exact cond_run rfl rfl
  | false =>
  refine cond_not rfl ?_
  cases m == 2 with
  | true => exact cond_run rfl (callB i rfl)
  | false =>
  refine cond_not rfl ?_
  cases m == 3 with
  | true => exact cond_run rfl (callB j rfl)
  | false =>
  refine cond_not rfl ?_
  cases m == 4 with
  | true =>
    refine cond_run rfl (callB i ?_)
    cases h : incS 6 _ _ with
    | false => exact cond_not rfl rfl
    | true => exact cond_run rfl (callB j rfl)
  | false => exact cond_not rfl rfl

end Go.Proofs.YtapndkailgcboaaGreatDoor
