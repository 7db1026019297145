/- Value and Accepts. -/
import Derived.Test.YtghdhhmlmdohkaaGreatDoorKc
import Derived.Test.YtghdhhmlmdohkaaGreatDoorSp1
namespace Go.Proofs.YtghdhhmlmdohkaaGreatDoor
open Go Go.Den
set_option maxRecDepth 100000

/-- What Value answers. -/
def valS (s : List UInt8) : AV :=
  if 65536 < s.length then .tup [nilV, num 0, num 5] else
  match valL 9 39 6 s with
  | .ok y l => if l = [] then .tup [slotsV y, num 0, num 0] else .tup [nilV, num (pos s l), num 2]
  | .err e l => .tup [nilV, num (pos s l), num e]

theorem numL_err {l r : List UInt8} {e : Int} (h : numL l = .err e r) : e ≠ 0 := by
  unfold numL at h
  dsimp only at h
  repeat' split at h
  all_goals (cases h <;> decide)
theorem needL_err : ∀ {w l r : List UInt8} {e : Int}, needL w l = .err e r → e ≠ 0
  | [], _, _, _, h => by cases h
  | c :: w, l, r, e, h => by
    unfold needL at h
    split at h
    · exact needL_err h
    · injection h with h; omega
theorem wordL_err {l r : List UInt8} {e : Int} (h : wordL l = .err e r) : e ≠ 0 := by
  unfold wordL at h
  split at h
  · cases h
  · injection h with h; omega
theorem then_err {α β : Type} {x : PR α} {f : α → List UInt8 → PR β} {e : Int} {r : List UInt8} (h : x.andThen f = .err e r) (hx : ∀ r, x = .err e r → e ≠ 0) (hf : ∀ a q, x = .ok a q → f a q = .err e r → e ≠ 0) : e ≠ 0 := by
  cases x with
  | err e' r' => injection h with h1 h2; subst h1; exact hx _ rfl
  | ok a q => exact hf a q rfl h

theorem tail_le {α : Type} {x : PR α} {l r : List UInt8} {a : α} (h : x.Tail l) (hx : x = .ok a r) : r.length ≤ l.length := by
  rw [hx] at h; exact List.IsSuffix.length_le h

end Go.Proofs.YtghdhhmlmdohkaaGreatDoor
