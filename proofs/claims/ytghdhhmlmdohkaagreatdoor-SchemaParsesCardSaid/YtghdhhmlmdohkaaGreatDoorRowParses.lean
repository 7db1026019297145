/- For every string: the law SchemaParses returns true, and what it is handed reads as it did. The card ties the library tables that are listed to the text of the program. No condition. -/
import Derived.Test.YtghdhhmlmdohkaaGreatDoorRows
import Derived.Test.YtghdhhmlmdohkaaGreatDoorCards
import Derived.Test.YtghdhhmlmdohkaaGreatDoorTie
import Derived.Test.YtghdhhmlmdohkaaGreatDoorLawParses
import Derived.LaidMore
import Derived.Stop.LaidErr
import Derived.SevenTiedAt
namespace Go.Proofs.YtghdhhmlmdohkaaGreatDoor
open Go Go.Den Go.ChangeShapes Go.WideShapes Go.ChangeAt Go.RowKit
set_option maxRecDepth 100000

theorem SchemaParses.ownK : ownKnob Tryz.prog.godebug = none := by kernel_rfl
theorem SchemaParses.laidOut : laidOutB Tryz.prog = true := by kernel_rfl
theorem SchemaParses.shapes : shapesB Tryz.prog [27, 9, 81, 3, 23, 24, 25, 4] = true := by kernel_rfl
abbrev SchemaParses.laid : List (String × DataW Unit) := Rows.schemaParsesRow.laid
theorem SchemaParses.door (os : Os) (args : Array Value) : laidMetH Tryz.prog SchemaParses.laid ((World.doorLaid Tryz.prog 400 os).forCall (fun _ _ => 0) ⟨#[], args, []⟩).memory :=
  laidMetH_of_parts3 (fuel := 8) (laidMet_of_run' 8 (by kernel_rfl) (by kernel_rfl)) (by kernel_rfl) (by kernel_rfl)
theorem SchemaParses.tabsOk {W : World} (h : laidMetH Tryz.prog SchemaParses.laid W) : TabsOk Tryz.prog [] W := by
  rw [MakeChecks.laidMetH_plain _ _ _ (by kernel_rfl)] at h
  intro p hp g hg
  simp only [tabs, List.mem_singleton] at hp
  subst hp
  have ht : Lib.TabIs Tryz.prog W "internal/strconv.uint64pow10" .u64 Lib.pow10Tab := Lib.tabIs_of_head (g := 1) (t := 182) (n := 20) (e := 172) (by kernel_rfl) (by kernel_rfl) (by kernel_rfl) (by kernel_rfl) (by kernel_rfl) (by kernel_rfl) (laidMet.tail (laidMet.tail h))
  refine ⟨ht, ?_, fun id c hc => by simp at hc⟩
  have h1 := ht.cell hg 0 (by decide)
  exact cell_lt h1

theorem SchemaParses.lifted (os : Os) (started : os.Started) (H : Type) (enc : TypeId × Value → H) :
    ReturnsInHanded {} Tryz.checked os 3 .any (fun w args => (Rows.schemaParsesSpec.pre enc Tryz.prog Tryz.f3 [] false w args ∧ laidMetH Tryz.prog SchemaParses.laid w) ∧ sizedMet enc Tryz.prog Tryz.f3 (OpenSpec.ofChange Rows.schemaParsesSpec) false w args)
      (Rows.schemaParsesSpec.post enc Tryz.prog Tryz.f3 false true false false) := by
  refine returnsInHanded_of_change_and (C := Tryz.checked) (X := fun w _ => laidMetH Tryz.prog SchemaParses.laid w) (fun _ _ _ hh h => h.of_heap hh) SchemaParses.ownK started (by kernel_rfl) Tryz.func3
    (ChangeSpec.witness_shaped (enc := enc) (C := Tryz.checked) (os := os) (X := fun w _ => laidMetH Tryz.prog SchemaParses.laid w) false (World.doorLaid Tryz.prog 400 os) #[.string .empty] 8 rfl (World.shaped_of_RefB (by kernel_rfl) (by kernel_rfl)) (by kernel_rfl) (by kernel_rfl) (by kernel_rfl) (SchemaParses.door os _)) ?_
  intro W base args ds gs before hval hW hcnd _ hL _
  exact Go.Den.law_contract (tb := 4) SchemaParses.shapes mixed named prims SchemaParses.laidOut (by kernel_rfl) (by kernel_rfl) (by kernel_rfl) rfl
    (fun ds hd => by
      match ds, hd with
      | [_], _ => rfl) parses_law W (SchemaParses.tabsOk hL) base args ds gs before hval hW hcnd

theorem SchemaParses.said : Rows.SchemaParsesSaid :=
  OpenClaim.holds_of_wide 3 Tryz.f3 rfl rfl rfl rfl rfl rfl rfl ⟨rfl, rfl, rfl, rfl, rfl⟩ rfl rfl rfl rfl rfl (by kernel_rfl) Tryz.func3 (by kernel_rfl)
    (of_decide_eq_true (by kernel_rfl)) (by unfold Func.isWrapper; first | (rw [if_pos (by decide +kernel)]; kernel_rfl) | (rw [if_neg (by decide +kernel)]; exact ⟨rfl, rfl⟩))
    (fun os started H enc _ => SchemaParses.lifted os started H enc)

theorem schemaParses_card : Rows.SchemaParsesCardSaid :=
  Claim7.holds_tied_plain_at .later [] [.data, .data, .data] true (true, "b453aceaab212bed701d9cc69d92f366f0e09d899b234546cb962e958551a90f") true
    SchemaParses.said (fun _ h => by cases h) (by kernel_rfl) (fun _ h => by cases h) schemaParses_row_tie rfl ⟨rfl, rfl⟩ (by kernel_rfl) rfl
    (fun f fn hf hfn => by
      obtain rfl : f = 3 := Option.some.inj ((show Tryz.prog.funcNamed "broker/brokerlaw22.SchemaParses" = some 3 by kernel_rfl).symm.trans hf) |>.symm
      obtain rfl : fn = Tryz.f3 := (Option.some.inj (Tryz.func3.symm.trans hfn)).symm
      exact ⟨by kernel_rfl, fun j t ht => by
        have hp : Tryz.f3.params = #[9] := by kernel_rfl
        rw [hp] at ht
        have h3 : t = 9 := by
          match j, ht with
          | 0, ht => exact (by simpa using ht.symm)
          | n + 1, ht => simp at ht
        skip
        all_goals (subst h3; exact (show Tryz.prog.wantsStandIn _ = false by kernel_rfl))⟩)
    (by kernel_rfl)

end Go.Proofs.YtghdhhmlmdohkaaGreatDoor
