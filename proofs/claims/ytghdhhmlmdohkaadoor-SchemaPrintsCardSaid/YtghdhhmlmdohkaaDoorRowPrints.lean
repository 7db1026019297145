/- For every schema: the law SchemaPrints returns true, and what it is handed reads as it did. The card ties the library tables that are listed to the text of the program. No condition. -/
import Derived.Test.YtghdhhmlmdohkaaDoorRows
import Derived.Test.YtghdhhmlmdohkaaDoorCards
import Derived.Test.YtghdhhmlmdohkaaDoorTie
import Derived.Test.YtghdhhmlmdohkaaDoorLawPrints
import Derived.LaidMore
import Derived.Stop.LaidErr
import Derived.SevenTiedAt
namespace Go.Proofs.YtghdhhmlmdohkaaDoor
open Go Go.Den Go.ChangeShapes Go.WideShapes Go.ChangeAt Go.RowKit
set_option maxRecDepth 100000

theorem SchemaPrints.ownK : ownKnob Tryd.prog.godebug = none := by kernel_rfl
theorem SchemaPrints.laidOut : laidOutB Tryd.prog = true := by kernel_rfl
theorem SchemaPrints.shapes : shapesB Tryd.prog [26, 9, 64, 3, 22, 23, 24, 4, 38, 36] = true := by kernel_rfl
abbrev SchemaPrints.laid : List (String × DataW Unit) := Rows.schemaPrintsRow.laid
theorem SchemaPrints.door (os : Os) (args : Array Value) : laidMetH Tryd.prog SchemaPrints.laid ((World.doorLaid Tryd.prog 400 os).forCall (fun _ _ => 0) ⟨#[], args, []⟩).memory :=
  laidMetH_of_parts3 (fuel := 8) (laidMet_of_run' 8 (by kernel_rfl) (by kernel_rfl)) (by kernel_rfl) (by kernel_rfl)
theorem SchemaPrints.tabsOk {W : World} (h : laidMetH Tryd.prog SchemaPrints.laid W) : TabsOk Tryd.prog [] W := by
  rw [MakeChecks.laidMetH_plain _ _ _ (by kernel_rfl)] at h
  intro p hp g hg
  simp only [tabs, List.mem_singleton] at hp
  subst hp
  have ht : Lib.TabIs Tryd.prog W "internal/strconv.uint64pow10" .u64 Lib.pow10Tab := Lib.tabIs_of_head (g := 1) (t := 170) (n := 20) (e := 161) (by kernel_rfl) (by kernel_rfl) (by kernel_rfl) (by kernel_rfl) (by kernel_rfl) (by kernel_rfl) (laidMet.tail (laidMet.tail h))
  refine ⟨ht, ?_, fun id c hc => by simp at hc⟩
  have h1 := ht.cell hg 0 (by decide)
  exact cell_lt h1

theorem SchemaPrints.lifted (os : Os) (started : os.Started) (H : Type) (enc : TypeId × Value → H) :
    ReturnsInHanded {} Tryd.checked os 4 .any (fun w args => (Rows.schemaPrintsSpec.pre enc Tryd.prog Tryd.f4 [] false w args ∧ laidMetH Tryd.prog SchemaPrints.laid w) ∧ sizedMet enc Tryd.prog Tryd.f4 (OpenSpec.ofChange Rows.schemaPrintsSpec) false w args)
      (Rows.schemaPrintsSpec.post enc Tryd.prog Tryd.f4 false true false false) := by
  refine returnsInHanded_of_change_and (C := Tryd.checked) (X := fun w _ => laidMetH Tryd.prog SchemaPrints.laid w) (fun _ _ _ hh h => h.of_heap hh) SchemaPrints.ownK started (by kernel_rfl) Tryd.func4
    (ChangeSpec.witness_shaped (enc := enc) (C := Tryd.checked) (os := os) (X := fun w _ => laidMetH Tryd.prog SchemaPrints.laid w) false (World.doorLaid Tryd.prog 400 os) #[.agg #[.int .i64 0, .int .i64 0, .int .i64 0, .slice none 0 0, .slice none 0 0, .slice none 0 0]] 8 rfl (World.shaped_of_RefB (by kernel_rfl) (by kernel_rfl)) (by kernel_rfl) (by kernel_rfl) (by kernel_rfl) (SchemaPrints.door os _)) ?_
  intro W base args ds gs before hval hW hcnd _ hL _
  exact Go.Den.law_contract (tb := 4) SchemaPrints.shapes mixed named prims SchemaPrints.laidOut (by kernel_rfl) (by kernel_rfl) (by kernel_rfl) rfl
    (fun ds hd => by
      match ds, hd with
      | [_], _ => rfl) prints_law W (SchemaPrints.tabsOk hL) base args ds gs before hval hW hcnd

theorem SchemaPrints.said : Rows.SchemaPrintsSaid :=
  OpenClaim.holds_of_wide 4 Tryd.f4 rfl rfl rfl rfl rfl rfl rfl ⟨rfl, rfl, rfl, rfl, rfl⟩ rfl rfl rfl rfl rfl (by kernel_rfl) Tryd.func4 (by kernel_rfl)
    (of_decide_eq_true (by kernel_rfl)) (by unfold Func.isWrapper; first | (rw [if_pos (by decide +kernel)]; kernel_rfl) | (rw [if_neg (by decide +kernel)]; exact ⟨rfl, rfl⟩))
    (fun os started H enc _ => SchemaPrints.lifted os started H enc)

theorem schemaPrints_card : Rows.SchemaPrintsCardSaid :=
  Claim7.holds_tied_plain_at .later [] [.data, .data, .data] true (true, "fa1d9d286f11b4ef66c4c38cb5f00b32a289cc4d1ef5b30906d8023b57631edb") true
    SchemaPrints.said (fun _ h => by cases h) (by kernel_rfl) (fun _ h => by cases h) schemaPrints_row_tie rfl ⟨rfl, rfl⟩ (by kernel_rfl) rfl
    (fun f fn hf hfn => by
      obtain rfl : f = 4 := Option.some.inj ((show Tryd.prog.funcNamed "broker/brokerlaw22.SchemaPrints" = some 4 by kernel_rfl).symm.trans hf) |>.symm
      obtain rfl : fn = Tryd.f4 := (Option.some.inj (Tryd.func4.symm.trans hfn)).symm
      exact ⟨by kernel_rfl, fun j t ht => by
        have hp : Tryd.f4.params = #[26] := by kernel_rfl
        rw [hp] at ht
        have h3 : t = 26 := by
          match j, ht with
          | 0, ht => exact (by simpa using ht.symm)
          | n + 1, ht => simp at ht
        skip
        all_goals (subst h3; exact (show Tryd.prog.wantsStandIn _ = false by kernel_rfl))⟩)
    (by kernel_rfl)

end Go.Proofs.YtghdhhmlmdohkaaDoor
