/- For any two schemas and any string: the law SchemaIncludes returns true, and what it is handed reads as it did. The card ties the library tables that are listed to the text of the program. No condition. -/
import Derived.Test.YtghdhhmlmdohkaaDoorRows
import Derived.Test.YtghdhhmlmdohkaaDoorCards
import Derived.Test.YtghdhhmlmdohkaaDoorTie
import Derived.Test.YtghdhhmlmdohkaaDoorLawIncludes
import Derived.LaidMore
import Derived.Stop.LaidErr
import Derived.SevenTiedAt
namespace Go.Proofs.YtghdhhmlmdohkaaDoor
open Go Go.Den Go.ChangeShapes Go.WideShapes Go.ChangeAt Go.RowKit
set_option maxRecDepth 100000

theorem SchemaIncludes.ownK : ownKnob Tryd.prog.godebug = none := by kernel_rfl
theorem SchemaIncludes.laidOut : laidOutB Tryd.prog = true := by kernel_rfl
theorem SchemaIncludes.shapes : shapesB Tryd.prog [26, 9, 64, 3, 22, 23, 24, 4, 38, 36] = true := by kernel_rfl
abbrev SchemaIncludes.laid : List (String × DataW Unit) := Rows.schemaIncludesRow.laid
theorem SchemaIncludes.door (os : Os) (args : Array Value) : laidMetH Tryd.prog SchemaIncludes.laid ((World.doorLaid Tryd.prog 400 os).forCall (fun _ _ => 0) ⟨#[], args, []⟩).memory :=
  laidMetH_of_parts3 (fuel := 8) (laidMet_of_run' 8 (by kernel_rfl) (by kernel_rfl)) (by kernel_rfl) (by kernel_rfl)
theorem SchemaIncludes.tabsOk {W : World} (h : laidMetH Tryd.prog SchemaIncludes.laid W) : TabsOk Tryd.prog [] W := by
  rw [MakeChecks.laidMetH_plain _ _ _ (by kernel_rfl)] at h
  intro p hp g hg
  simp only [tabs, List.mem_singleton] at hp
  subst hp
  have ht : Lib.TabIs Tryd.prog W "internal/strconv.uint64pow10" .u64 Lib.pow10Tab := Lib.tabIs_of_head (g := 1) (t := 170) (n := 20) (e := 161) (by kernel_rfl) (by kernel_rfl) (by kernel_rfl) (by kernel_rfl) (by kernel_rfl) (by kernel_rfl) (laidMet.tail (laidMet.tail h))
  refine ⟨ht, ?_, fun id c hc => by simp at hc⟩
  have h1 := ht.cell hg 0 (by decide)
  exact cell_lt h1

theorem SchemaIncludes.lifted (os : Os) (started : os.Started) (H : Type) (enc : TypeId × Value → H) :
    ReturnsInHanded {} Tryd.checked os 9 .any (fun w args => (Rows.schemaIncludesSpec.pre enc Tryd.prog Tryd.f9 [] false w args ∧ laidMetH Tryd.prog SchemaIncludes.laid w) ∧ sizedMet enc Tryd.prog Tryd.f9 (OpenSpec.ofChange Rows.schemaIncludesSpec) false w args)
      (Rows.schemaIncludesSpec.post enc Tryd.prog Tryd.f9 false true false false) := by
  refine returnsInHanded_of_change_and (C := Tryd.checked) (X := fun w _ => laidMetH Tryd.prog SchemaIncludes.laid w) (fun _ _ _ hh h => h.of_heap hh) SchemaIncludes.ownK started (by kernel_rfl) Tryd.func9
    (ChangeSpec.witness_shaped (enc := enc) (C := Tryd.checked) (os := os) (X := fun w _ => laidMetH Tryd.prog SchemaIncludes.laid w) false (World.doorLaid Tryd.prog 400 os) #[.agg #[.int .i64 0, .int .i64 0, .int .i64 0, .slice none 0 0, .slice none 0 0, .slice none 0 0], .agg #[.int .i64 0, .int .i64 0, .int .i64 0, .slice none 0 0, .slice none 0 0, .slice none 0 0], .string .empty] 8 rfl (World.shaped_of_RefB (by kernel_rfl) (by kernel_rfl)) (by kernel_rfl) (by kernel_rfl) (by kernel_rfl) (SchemaIncludes.door os _)) ?_
  intro W base args ds gs before hval hW hcnd _ hL _
  exact Go.Den.law_contract (tb := 4) SchemaIncludes.shapes mixed named prims SchemaIncludes.laidOut (by kernel_rfl) (by kernel_rfl) (by kernel_rfl) rfl
    (fun ds hd => by
      match ds, hd with
      | [_, _, _], _ => rfl) includes_law W (SchemaIncludes.tabsOk hL) base args ds gs before hval hW hcnd

theorem SchemaIncludes.said : Rows.SchemaIncludesSaid :=
  OpenClaim.holds_of_wide 9 Tryd.f9 rfl rfl rfl rfl rfl rfl rfl ⟨rfl, rfl, rfl, rfl, rfl⟩ rfl rfl rfl rfl rfl (by kernel_rfl) Tryd.func9 (by kernel_rfl)
    (of_decide_eq_true (by kernel_rfl)) (by unfold Func.isWrapper; first | (rw [if_pos (by decide +kernel)]; kernel_rfl) | (rw [if_neg (by decide +kernel)]; exact ⟨rfl, rfl⟩))
    (fun os started H enc _ => SchemaIncludes.lifted os started H enc)

theorem schemaIncludes_card : Rows.SchemaIncludesCardSaid :=
  Claim7.holds_tied_plain_at .later [] [.data, .data, .data] true (true, "fa1d9d286f11b4ef66c4c38cb5f00b32a289cc4d1ef5b30906d8023b57631edb") true
    SchemaIncludes.said (fun _ h => by cases h) (by kernel_rfl) (fun _ h => by cases h) schemaIncludes_row_tie rfl ⟨rfl, rfl⟩ (by kernel_rfl) rfl
    (fun f fn hf hfn => by
      obtain rfl : f = 9 := Option.some.inj ((show Tryd.prog.funcNamed "broker/brokerlaw22.SchemaIncludes" = some 9 by kernel_rfl).symm.trans hf) |>.symm
      obtain rfl : fn = Tryd.f9 := (Option.some.inj (Tryd.func9.symm.trans hfn)).symm
      exact ⟨by kernel_rfl, fun j t ht => by
        have hp : Tryd.f9.params = #[26, 26, 9] := by kernel_rfl
        rw [hp] at ht
        have h3 : t = 26 ∨ t = 26 ∨ t = 9 := by
          match j, ht with
          | 0, ht => exact (.inl (by simpa using ht.symm))
          | 1, ht => exact (.inr (.inl (by simpa using ht.symm)))
          | 2, ht => exact (.inr (.inr (by simpa using ht.symm)))
          | n + 3, ht => simp at ht
        rcases h3 with h3 | h3 | h3
        all_goals (subst h3; exact (show Tryd.prog.wantsStandIn _ = false by kernel_rfl))⟩)
    (by kernel_rfl)

end Go.Proofs.YtghdhhmlmdohkaaDoor
