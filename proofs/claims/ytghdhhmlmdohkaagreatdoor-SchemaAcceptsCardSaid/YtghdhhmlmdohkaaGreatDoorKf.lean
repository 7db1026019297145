/- Accepts. -/
import Derived.Test.YtghdhhmlmdohkaaGreatDoorKd
import Derived.Test.YtghdhhmlmdohkaaGreatDoorAe
import Derived.Test.YtghdhhmlmdohkaaGreatDoorFa
namespace Go.Proofs.YtghdhhmlmdohkaaGreatDoor
open Go Go.Den
set_option maxRecDepth 100000

/-- What Accepts answers. -/
def accS (t : E) (s : List UInt8) : Bool :=
  if 65536 < s.length then false else
  match valL 9 39 6 s with
  | .ok y l => if l = [] then (fitsS 6 t y).isNone else false
  | .err _ _ => false

theorem Accepts_run {t : E} {s : List UInt8} (ft : Ful 9 27 81 6 t) (ht : Ty t) : RR none 21 [slotsOf t, str s] [] = some (.ret (yes (accS t s)), []) := by
  have ev := Value_run s
  have ef : ∀ y, FulV 9 39 6 y → Val y → _ := fun y fy hy => Fits_run 6 6 t y (by omega) ft fy ht hy
  unfold accS
  unfold valS at ev
  have herr : ∀ e l, valL 9 39 6 s = .err e l → e ≠ 0 := fun e l h => valL_err 6 s l e h
  cases ht with
  | mk k mn mx os fs gs =>
  refine run_of_body ((eq_Accepts RR LL k mn mx os fs gs s).trans ?_)
  by_cases hb : 65536 < s.length
  · rw [if_pos hb] at ev ⊢
    exact bind_run ev (cond_run rfl (cond_run (okV41 ..) (cond_run rfl rfl)))
  rw [if_neg hb] at ev ⊢
  cases hv : valL 9 39 6 s with
  | ok y l =>
    rw [hv] at ev
    dsimp only at ev ⊢
    by_cases hl : l = []
    · rw [if_pos hl] at ev ⊢
      subst hl
      obtain ⟨fy, hy⟩ := valL_all (by omega) hv
      refine bind_run ev (cond_run rfl (cond_run (okV41 ..) (cond_not rfl ?_)))
      have e := ef y fy hy
      rw [← slotsV_eq hy] at e
      refine callP e ?_
      generalize fitsS 6 _ _ = p
      cases p <;> rfl
    · rw [if_neg hl] at ev ⊢
      exact bind_run ev (cond_run rfl (cond_run (okV41 ..) (cond_run rfl rfl)))
  | err e l =>
    rw [hv] at ev
    exact bind_run ev (cond_run rfl (cond_run (okV41 ..) (cond_run (by show (!(e == 0)) = true; rw [ne_beq (herr e l hv)]; rfl) rfl)))

end Go.Proofs.YtghdhhmlmdohkaaGreatDoor
