/- The law RegistryChecks returns true for every input, and what it is handed reads as it did. The card ties the library variables that are listed to the text of the program. No condition. -/
import Derived.Test.YtapndkailgcboaaGreatDoorRows
import Derived.Test.YtapndkailgcboaaGreatDoorCards
import Derived.Test.YtapndkailgcboaaGreatDoorTie
import Derived.Test.YtapndkailgcboaaGreatDoorRb
import Derived.LaidMore
import Derived.Stop.LaidErr
import Derived.SevenTiedAt
import Derived.Deep.DeepLaidRun
import Derived.Lib.LaidU8
namespace Go.Proofs.YtapndkailgcboaaGreatDoor
open Go Go.Den Go.ChangeShapes Go.WideShapes Go.ChangeAt Go.RowKit
set_option maxRecDepth 100000

theorem RegistryChecks.ownK : ownKnob Tryz.prog.godebug = none := by kernel_rfl
theorem RegistryChecks.laidOut : laidOutB Tryz.prog = true := by kernel_rfl
theorem RegistryChecks.shapes : shapesB Tryz.prog [46, 31, 9, 65, 3, 27, 28, 29, 22, 4] = true := by kernel_rfl
abbrev RegistryChecks.laid : List (String × DataW Unit) := Rows.registryChecksRow.laid
/-- A start that meets the listed variables: what the door's run leaves, and the pinned table of utf8. -/
noncomputable def RegW (os : Os) : World :=
  { World.doorLaid Tryz.prog 4000 os with heap := (World.doorLaid Tryz.prog 4000 os).heap.modify ((Tryz.prog.globalNamed "unicode/utf8.first").getD 0) fun
    | .cells _ t frozen => .cells (Lib.firstTab.map fun z => Value.int .u8 z).toArray t frozen
    | o => o }
theorem RegistryChecks.door (os : Os) (args : Array Value) : laidMetH Tryz.prog RegistryChecks.laid ((RegW os).forCall (fun _ _ => 0) ⟨#[], args, []⟩).memory :=
  laidMetH_of_parts3 (fuel := 10) (laidMet_of_run3 10 (by kernel_rfl) (by kernel_rfl) (by kernel_rfl)) (by kernel_rfl) (by kernel_rfl)
theorem RegistryChecks.tabsOk {W : World} (h : laidMetH Tryz.prog RegistryChecks.laid W) : TabsOk Tryz.prog [] W := by
  rw [MakeChecks.laidMetH_plain _ _ _ (by kernel_rfl)] at h
  intro p hp g hg
  simp only [tabs, List.mem_cons, List.not_mem_nil, or_false] at hp
  rcases hp with rfl | rfl | rfl
  · have ht : Lib.TabIs Tryz.prog W "internal/strconv.uint64pow10" .u64 Lib.pow10Tab := Lib.tabIs_of_head (g := 3) (t := 167) (n := 20) (e := 152) (by kernel_rfl) (by kernel_rfl) (by kernel_rfl) (by kernel_rfl) (by kernel_rfl) (by kernel_rfl) (laidMet.tail (laidMet.tail h))
    refine ⟨⟨_, ht, rfl⟩, ?_, fun id c hc => by simp at hc⟩
    have h1 := ht.cell hg 0 (by decide)
    exact cell_lt h1
  · rw [show Tryz.prog.globalNamed "strconv.ErrSyntax" = none by kernel_rfl] at hg
    cases hg
  · rw [show Tryz.prog.globalNamed "strconv.ErrRange" = none by kernel_rfl] at hg
    cases hg

theorem RegistryChecks.lifted (os : Os) (started : os.Started) (H : Type) (enc : TypeId × Value → H) :
    ReturnsInHanded {} Tryz.checked os 3 .any (fun w args => (Rows.registryChecksSpec.pre enc Tryz.prog Tryz.f3 [] false w args ∧ laidMetH Tryz.prog RegistryChecks.laid w) ∧ sizedMet enc Tryz.prog Tryz.f3 (OpenSpec.ofChange Rows.registryChecksSpec) false w args)
      (Rows.registryChecksSpec.post enc Tryz.prog Tryz.f3 false true false false) := by
  refine returnsInHanded_of_change_and (C := Tryz.checked) (X := fun w _ => laidMetH Tryz.prog RegistryChecks.laid w) (fun _ _ _ hh h => h.of_heap hh) RegistryChecks.ownK started (by kernel_rfl) Tryz.func3
    (ChangeSpec.witness_shaped (enc := enc) (C := Tryz.checked) (os := os) (X := fun w _ => laidMetH Tryz.prog RegistryChecks.laid w) false (RegW os) #[.slice none 0 0] 8 rfl (World.shaped_of_RefB (by kernel_rfl) (by kernel_rfl)) (by kernel_rfl) (by kernel_rfl) (by kernel_rfl) (RegistryChecks.door os _)) ?_
  intro W base args ds gs before hval hW hcnd _ hL _
  exact Go.Den.law_contract (tb := 4) RegistryChecks.shapes mixed named prims RegistryChecks.laidOut (by kernel_rfl) (by kernel_rfl) (by kernel_rfl) rfl
    (fun ds hd => by
      match ds, hd with
      | [_], _ => rfl) checks_law W (RegistryChecks.tabsOk hL) base args ds gs before hval hW hcnd

theorem RegistryChecks.said : Rows.RegistryChecksSaid :=
  OpenClaim.holds_of_wide 3 Tryz.f3 rfl rfl rfl rfl rfl rfl rfl ⟨rfl, rfl, rfl, rfl, rfl⟩ rfl rfl rfl rfl rfl (by kernel_rfl) Tryz.func3 (by kernel_rfl)
    (of_decide_eq_true (by kernel_rfl)) (by unfold Func.isWrapper; first | (rw [if_pos (by decide +kernel)]; kernel_rfl) | (rw [if_neg (by decide +kernel)]; exact ⟨rfl, rfl⟩))
    (fun os started H enc _ => RegistryChecks.lifted os started H enc)

theorem registryChecks_card : Rows.RegistryChecksCardSaid :=
  Claim7.holds_tied_plain_at .later [] [.data, .data, .data, .data, .pinned] true (true, "a292012d309c66aeea6ef3c5a40b1ec9281010e5e613a89039b7d5fff0600aec") true
    RegistryChecks.said (fun _ h => by cases h) (by kernel_rfl) (fun _ h => by cases h) registryChecks_row_tie rfl ⟨rfl, rfl⟩ (by kernel_rfl) rfl
    (fun f fn hf hfn => by
      obtain rfl : f = 3 := Option.some.inj ((show Tryz.prog.funcNamed "broker/brokerlaw23.RegistryChecks" = some 3 by kernel_rfl).symm.trans hf) |>.symm
      obtain rfl : fn = Tryz.f3 := (Option.some.inj (Tryz.func3.symm.trans hfn)).symm
      exact ⟨by kernel_rfl, fun j t ht => by
        have hp : Tryz.f3.params = #[22] := by kernel_rfl
        rw [hp] at ht
        have h3 : t = 22 := by
          match j, ht with
          | 0, ht => exact (by simpa using ht.symm)
          | n + 1, ht => simp at ht
        skip
        all_goals (subst h3; exact (show Tryz.prog.wantsStandIn _ = false by kernel_rfl))⟩)
    (by kernel_rfl)

end Go.Proofs.YtapndkailgcboaaGreatDoor
