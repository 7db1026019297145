/- For every schema and string: the law SchemaAccepts returns true, and what it is handed reads as it did. The card ties the library tables that are listed to the text of the program. No condition. -/
import Derived.Test.YtghdhhmlmdohkaaGreatDoorRows
import Derived.Test.YtghdhhmlmdohkaaGreatDoorCards
import Derived.Test.YtghdhhmlmdohkaaGreatDoorTie
import Derived.Test.YtghdhhmlmdohkaaGreatDoorLawAccepts
import Derived.LaidMore
import Derived.Stop.LaidErr
import Derived.SevenTiedAt
namespace Go.Proofs.YtghdhhmlmdohkaaGreatDoor
open Go Go.Den Go.ChangeShapes Go.WideShapes Go.ChangeAt Go.RowKit
set_option maxRecDepth 100000

theorem SchemaAccepts.ownK : ownKnob Tryz.prog.godebug = none := by kernel_rfl
theorem SchemaAccepts.laidOut : laidOutB Tryz.prog = true := by kernel_rfl
theorem SchemaAccepts.shapes : shapesB Tryz.prog [27, 9, 81, 3, 23, 24, 25, 4] = true := by kernel_rfl
abbrev SchemaAccepts.laid : List (String × DataW Unit) := Rows.schemaAcceptsRow.laid
theorem SchemaAccepts.door (os : Os) (args : Array Value) : laidMetH Tryz.prog SchemaAccepts.laid ((World.doorLaid Tryz.prog 400 os).forCall (fun _ _ => 0) ⟨#[], args, []⟩).memory :=
  laidMetH_of_parts3 (fuel := 8) (laidMet_of_run' 8 (by kernel_rfl) (by kernel_rfl)) (by kernel_rfl) (by kernel_rfl)
theorem SchemaAccepts.tabsOk {W : World} (h : laidMetH Tryz.prog SchemaAccepts.laid W) : TabsOk Tryz.prog [] W := by
  rw [MakeChecks.laidMetH_plain _ _ _ (by kernel_rfl)] at h
  intro p hp g hg
  simp only [tabs, List.mem_singleton] at hp
  subst hp
  have ht : Lib.TabIs Tryz.prog W "internal/strconv.uint64pow10" .u64 Lib.pow10Tab := Lib.tabIs_of_head (g := 1) (t := 182) (n := 20) (e := 172) (by kernel_rfl) (by kernel_rfl) (by kernel_rfl) (by kernel_rfl) (by kernel_rfl) (by kernel_rfl) (laidMet.tail (laidMet.tail h))
  refine ⟨ht, ?_, fun id c hc => by simp at hc⟩
  have h1 := ht.cell hg 0 (by decide)
  exact cell_lt h1

theorem SchemaAccepts.lifted (os : Os) (started : os.Started) (H : Type) (enc : TypeId × Value → H) :
    ReturnsInHanded {} Tryz.checked os 4 .any (fun w args => (Rows.schemaAcceptsSpec.pre enc Tryz.prog Tryz.f4 [] false w args ∧ laidMetH Tryz.prog SchemaAccepts.laid w) ∧ sizedMet enc Tryz.prog Tryz.f4 (OpenSpec.ofChange Rows.schemaAcceptsSpec) false w args)
      (Rows.schemaAcceptsSpec.post enc Tryz.prog Tryz.f4 false true false false) := by
  refine returnsInHanded_of_change_and (C := Tryz.checked) (X := fun w _ => laidMetH Tryz.prog SchemaAccepts.laid w) (fun _ _ _ hh h => h.of_heap hh) SchemaAccepts.ownK started (by kernel_rfl) Tryz.func4
    (ChangeSpec.witness_shaped (enc := enc) (C := Tryz.checked) (os := os) (X := fun w _ => laidMetH Tryz.prog SchemaAccepts.laid w) false (World.doorLaid Tryz.prog 400 os) #[.agg #[.int .i64 0, .int .i64 0, .int .i64 0, .slice none 0 0, .slice none 0 0, .slice none 0 0], .string .empty] 8 rfl (World.shaped_of_RefB (by kernel_rfl) (by kernel_rfl)) (by kernel_rfl) (by kernel_rfl) (by kernel_rfl) (SchemaAccepts.door os _)) ?_
  intro W base args ds gs before hval hW hcnd _ hL _
  exact Go.Den.law_contract (tb := 4) SchemaAccepts.shapes mixed named prims SchemaAccepts.laidOut (by kernel_rfl) (by kernel_rfl) (by kernel_rfl) rfl
    (fun ds hd => by
      match ds, hd with
      | [_, _], _ => rfl) accepts_law W (SchemaAccepts.tabsOk hL) base args ds gs before hval hW hcnd

theorem SchemaAccepts.said : Rows.SchemaAcceptsSaid :=
  OpenClaim.holds_of_wide 4 Tryz.f4 rfl rfl rfl rfl rfl rfl rfl ⟨rfl, rfl, rfl, rfl, rfl⟩ rfl rfl rfl rfl rfl (by kernel_rfl) Tryz.func4 (by kernel_rfl)
    (of_decide_eq_true (by kernel_rfl)) (by unfold Func.isWrapper; first | (rw [if_pos (by decide +kernel)]; kernel_rfl) | (rw [if_neg (by decide +kernel)]; exact ⟨rfl, rfl⟩))
    (fun os started H enc _ => SchemaAccepts.lifted os started H enc)

theorem schemaAccepts_card : Rows.SchemaAcceptsCardSaid :=
  Claim7.holds_tied_plain_at .later [] [.data, .data, .data] true (true, "b453aceaab212bed701d9cc69d92f366f0e09d899b234546cb962e958551a90f") true
    SchemaAccepts.said (fun _ h => by cases h) (by kernel_rfl) (fun _ h => by cases h) schemaAccepts_row_tie rfl ⟨rfl, rfl⟩ (by kernel_rfl) rfl
    (fun f fn hf hfn => by
      obtain rfl : f = 4 := Option.some.inj ((show Tryz.prog.funcNamed "broker/brokerlaw22.SchemaAccepts" = some 4 by kernel_rfl).symm.trans hf) |>.symm
      obtain rfl : fn = Tryz.f4 := (Option.some.inj (Tryz.func4.symm.trans hfn)).symm
      exact ⟨by kernel_rfl, fun j t ht => by
        have hp : Tryz.f4.params = #[27, 9] := by kernel_rfl
        rw [hp] at ht
        have h3 : t = 27 ∨ t = 9 := by
          match j, ht with
          | 0, ht => exact (.inl (by simpa using ht.symm))
          | 1, ht => exact (.inr (by simpa using ht.symm))
          | n + 2, ht => simp at ht
        rcases h3 with h3 | h3
        all_goals (subst h3; exact (show Tryz.prog.wantsStandIn _ = false by kernel_rfl))⟩)
    (by kernel_rfl)

end Go.Proofs.YtghdhhmlmdohkaaGreatDoor
