/- For every string: the law SchemaValues returns true, and what it is handed reads as it did. The card ties the library tables that are listed to the text of the program. No condition. -/
import Derived.Test.YtghdhhmlmdohkaaDoorRows
import Derived.Test.YtghdhhmlmdohkaaDoorCards
import Derived.Test.YtghdhhmlmdohkaaDoorTie
import Derived.Test.YtghdhhmlmdohkaaDoorLawValues
import Derived.LaidMore
import Derived.Stop.LaidErr
import Derived.SevenTiedAt
namespace Go.Proofs.YtghdhhmlmdohkaaDoor
open Go Go.Den Go.ChangeShapes Go.WideShapes Go.ChangeAt Go.RowKit
set_option maxRecDepth 100000

theorem SchemaValues.ownK : ownKnob Tryd.prog.godebug = none := by kernel_rfl
theorem SchemaValues.laidOut : laidOutB Tryd.prog = true := by kernel_rfl
theorem SchemaValues.shapes : shapesB Tryd.prog [26, 9, 64, 3, 22, 23, 24, 4, 38, 36] = true := by kernel_rfl
abbrev SchemaValues.laid : List (String × DataW Unit) := Rows.schemaValuesRow.laid
theorem SchemaValues.door (os : Os) (args : Array Value) : laidMetH Tryd.prog SchemaValues.laid ((World.doorLaid Tryd.prog 400 os).forCall (fun _ _ => 0) ⟨#[], args, []⟩).memory :=
  laidMetH_of_parts3 (fuel := 8) (laidMet_of_run' 8 (by kernel_rfl) (by kernel_rfl)) (by kernel_rfl) (by kernel_rfl)
theorem SchemaValues.tabsOk {W : World} (h : laidMetH Tryd.prog SchemaValues.laid W) : TabsOk Tryd.prog [] W := by
  rw [MakeChecks.laidMetH_plain _ _ _ (by kernel_rfl)] at h
  intro p hp g hg
  simp only [tabs, List.mem_singleton] at hp
  subst hp
  have ht : Lib.TabIs Tryd.prog W "internal/strconv.uint64pow10" .u64 Lib.pow10Tab := Lib.tabIs_of_head (g := 1) (t := 170) (n := 20) (e := 161) (by kernel_rfl) (by kernel_rfl) (by kernel_rfl) (by kernel_rfl) (by kernel_rfl) (by kernel_rfl) (laidMet.tail (laidMet.tail h))
  refine ⟨ht, ?_, fun id c hc => by simp at hc⟩
  have h1 := ht.cell hg 0 (by decide)
  exact cell_lt h1

theorem SchemaValues.lifted (os : Os) (started : os.Started) (H : Type) (enc : TypeId × Value → H) :
    ReturnsInHanded {} Tryd.checked os 6 .any (fun w args => (Rows.schemaValuesSpec.pre enc Tryd.prog Tryd.f6 [] false w args ∧ laidMetH Tryd.prog SchemaValues.laid w) ∧ sizedMet enc Tryd.prog Tryd.f6 (OpenSpec.ofChange Rows.schemaValuesSpec) false w args)
      (Rows.schemaValuesSpec.post enc Tryd.prog Tryd.f6 false true false false) := by
  refine returnsInHanded_of_change_and (C := Tryd.checked) (X := fun w _ => laidMetH Tryd.prog SchemaValues.laid w) (fun _ _ _ hh h => h.of_heap hh) SchemaValues.ownK started (by kernel_rfl) Tryd.func6
    (ChangeSpec.witness_shaped (enc := enc) (C := Tryd.checked) (os := os) (X := fun w _ => laidMetH Tryd.prog SchemaValues.laid w) false (World.doorLaid Tryd.prog 400 os) #[.string .empty] 8 rfl (World.shaped_of_RefB (by kernel_rfl) (by kernel_rfl)) (by kernel_rfl) (by kernel_rfl) (by kernel_rfl) (SchemaValues.door os _)) ?_
  intro W base args ds gs before hval hW hcnd _ hL _
  exact Go.Den.law_contract (tb := 4) SchemaValues.shapes mixed named prims SchemaValues.laidOut (by kernel_rfl) (by kernel_rfl) (by kernel_rfl) rfl
    (fun ds hd => by
      match ds, hd with
      | [_], _ => rfl) values_law W (SchemaValues.tabsOk hL) base args ds gs before hval hW hcnd

theorem SchemaValues.said : Rows.SchemaValuesSaid :=
  OpenClaim.holds_of_wide 6 Tryd.f6 rfl rfl rfl rfl rfl rfl rfl ⟨rfl, rfl, rfl, rfl, rfl⟩ rfl rfl rfl rfl rfl (by kernel_rfl) Tryd.func6 (by kernel_rfl)
    (of_decide_eq_true (by kernel_rfl)) (by unfold Func.isWrapper; first | (rw [if_pos (by decide +kernel)]; kernel_rfl) | (rw [if_neg (by decide +kernel)]; exact ⟨rfl, rfl⟩))
    (fun os started H enc _ => SchemaValues.lifted os started H enc)

theorem schemaValues_card : Rows.SchemaValuesCardSaid :=
  Claim7.holds_tied_plain_at .later [] [.data, .data, .data] true (true, "fa1d9d286f11b4ef66c4c38cb5f00b32a289cc4d1ef5b30906d8023b57631edb") true
    SchemaValues.said (fun _ h => by cases h) (by kernel_rfl) (fun _ h => by cases h) schemaValues_row_tie rfl ⟨rfl, rfl⟩ (by kernel_rfl) rfl
    (fun f fn hf hfn => by
      obtain rfl : f = 6 := Option.some.inj ((show Tryd.prog.funcNamed "broker/brokerlaw22.SchemaValues" = some 6 by kernel_rfl).symm.trans hf) |>.symm
      obtain rfl : fn = Tryd.f6 := (Option.some.inj (Tryd.func6.symm.trans hfn)).symm
      exact ⟨by kernel_rfl, fun j t ht => by
        have hp : Tryd.f6.params = #[9] := by kernel_rfl
        rw [hp] at ht
        have h3 : t = 9 := by
          match j, ht with
          | 0, ht => exact (by simpa using ht.symm)
          | n + 1, ht => simp at ht
        skip
        all_goals (subst h3; exact (show Tryd.prog.wantsStandIn _ = false by kernel_rfl))⟩)
    (by kernel_rfl)

end Go.Proofs.YtghdhhmlmdohkaaDoor
