/- The law RegistryHidden returns true for every input, and what it is handed reads as it did. The card ties the library variables that are listed to the text of the program. No condition. -/
import Derived.Test.YtapndkailgcboaaGreatDoorRows
import Derived.Test.YtapndkailgcboaaGreatDoorCards
import Derived.Test.YtapndkailgcboaaGreatDoorTie
import Derived.Test.YtapndkailgcboaaGreatDoorRf
import Derived.LaidMore
import Derived.Stop.LaidErr
import Derived.SevenTiedAt
import Derived.Deep.DeepLaidRun
import Derived.Lib.LaidU8
namespace Go.Proofs.YtapndkailgcboaaGreatDoor
open Go Go.Den Go.ChangeShapes Go.WideShapes Go.ChangeAt Go.RowKit
set_option maxRecDepth 100000

theorem RegistryHidden.ownK : ownKnob Tryz.prog.godebug = none := by kernel_rfl
theorem RegistryHidden.laidOut : laidOutB Tryz.prog = true := by kernel_rfl
theorem RegistryHidden.shapes : shapesB Tryz.prog [46, 31, 9, 65, 3, 27, 28, 29, 22, 4] = true := by kernel_rfl
abbrev RegistryHidden.laid : List (String × DataW Unit) := Rows.registryHiddenRow.laid
/-- A start that meets the listed variables: what the door's run leaves, and the pinned table of utf8. -/
noncomputable def RegW (os : Os) : World :=
  { World.doorLaid Tryz.prog 4000 os with heap := (World.doorLaid Tryz.prog 4000 os).heap.modify ((Tryz.prog.globalNamed "unicode/utf8.first").getD 0) fun
    | .cells _ t frozen => .cells (Lib.firstTab.map fun z => Value.int .u8 z).toArray t frozen
    | o => o }
theorem RegistryHidden.door (os : Os) (args : Array Value) : laidMetH Tryz.prog RegistryHidden.laid ((RegW os).forCall (fun _ _ => 0) ⟨#[], args, []⟩).memory :=
  laidMetH_of_parts3 (fuel := 10) (laidMet_of_run3 10 (by kernel_rfl) (by kernel_rfl) (by kernel_rfl)) (by kernel_rfl) (by kernel_rfl)
theorem RegistryHidden.tabsOk {W : World} (h : laidMetH Tryz.prog RegistryHidden.laid W) : TabsOk Tryz.prog [] W := by
  rw [MakeChecks.laidMetH_plain _ _ _ (by kernel_rfl)] at h
  intro p hp g hg
  simp only [tabs, List.mem_cons, List.not_mem_nil, or_false] at hp
  rcases hp with rfl | rfl | rfl
  · have ht : Lib.TabIs Tryz.prog W "internal/strconv.uint64pow10" .u64 Lib.pow10Tab := Lib.tabIs_of_head (g := 3) (t := 167) (n := 20) (e := 152) (by kernel_rfl) (by kernel_rfl) (by kernel_rfl) (by kernel_rfl) (by kernel_rfl) (by kernel_rfl) (laidMet.tail (laidMet.tail h))
    refine ⟨⟨_, ht, rfl⟩, ?_, fun id c hc => by simp at hc⟩
    have h1 := ht.cell hg 0 (by decide)
    exact cell_lt h1
  · rw [show Tryz.prog.globalNamed "strconv.ErrSyntax" = none by kernel_rfl] at hg
    cases hg
  · rw [show Tryz.prog.globalNamed "strconv.ErrRange" = none by kernel_rfl] at hg
    cases hg

theorem RegistryHidden.lifted (os : Os) (started : os.Started) (H : Type) (enc : TypeId × Value → H) :
    ReturnsInHanded {} Tryz.checked os 8 .any (fun w args => (Rows.registryHiddenSpec.pre enc Tryz.prog Tryz.f8 [] false w args ∧ laidMetH Tryz.prog RegistryHidden.laid w) ∧ sizedMet enc Tryz.prog Tryz.f8 (OpenSpec.ofChange Rows.registryHiddenSpec) false w args)
      (Rows.registryHiddenSpec.post enc Tryz.prog Tryz.f8 false true false false) := by
  refine returnsInHanded_of_change_and (C := Tryz.checked) (X := fun w _ => laidMetH Tryz.prog RegistryHidden.laid w) (fun _ _ _ hh h => h.of_heap hh) RegistryHidden.ownK started (by kernel_rfl) Tryz.func8
    (ChangeSpec.witness_shaped (enc := enc) (C := Tryz.checked) (os := os) (X := fun w _ => laidMetH Tryz.prog RegistryHidden.laid w) false (RegW os) #[.slice none 0 0, .string .empty] 8 rfl (World.shaped_of_RefB (by kernel_rfl) (by kernel_rfl)) (by kernel_rfl) (by kernel_rfl) (by kernel_rfl) (RegistryHidden.door os _)) ?_
  intro W base args ds gs before hval hW hcnd _ hL _
  exact Go.Den.law_contract (tb := 4) RegistryHidden.shapes mixed named prims RegistryHidden.laidOut (by kernel_rfl) (by kernel_rfl) (by kernel_rfl) rfl
    (fun ds hd => by
      match ds, hd with
      | [_, _], _ => rfl) hidden_law W (RegistryHidden.tabsOk hL) base args ds gs before hval hW hcnd

theorem RegistryHidden.said : Rows.RegistryHiddenSaid :=
  OpenClaim.holds_of_wide 8 Tryz.f8 rfl rfl rfl rfl rfl rfl rfl ⟨rfl, rfl, rfl, rfl, rfl⟩ rfl rfl rfl rfl rfl (by kernel_rfl) Tryz.func8 (by kernel_rfl)
    (of_decide_eq_true (by kernel_rfl)) (by unfold Func.isWrapper; first | (rw [if_pos (by decide +kernel)]; kernel_rfl) | (rw [if_neg (by decide +kernel)]; exact ⟨rfl, rfl⟩))
    (fun os started H enc _ => RegistryHidden.lifted os started H enc)

theorem registryHidden_card : Rows.RegistryHiddenCardSaid :=
  Claim7.holds_tied_plain_at .later [] [.data, .data, .data, .data, .pinned] true (true, "a292012d309c66aeea6ef3c5a40b1ec9281010e5e613a89039b7d5fff0600aec") true
    RegistryHidden.said (fun _ h => by cases h) (by kernel_rfl) (fun _ h => by cases h) registryHidden_row_tie rfl ⟨rfl, rfl⟩ (by kernel_rfl) rfl
    (fun f fn hf hfn => by
      obtain rfl : f = 8 := Option.some.inj ((show Tryz.prog.funcNamed "broker/brokerlaw23.RegistryHidden" = some 8 by kernel_rfl).symm.trans hf) |>.symm
      obtain rfl : fn = Tryz.f8 := (Option.some.inj (Tryz.func8.symm.trans hfn)).symm
      exact ⟨by kernel_rfl, fun j t ht => by
        have hp : Tryz.f8.params = #[22, 9] := by kernel_rfl
        rw [hp] at ht
        have h3 : t = 22 ∨ t = 9 := by
          match j, ht with
          | 0, ht => exact (.inl (by simpa using ht.symm))
          | 1, ht => exact (.inr (by simpa using ht.symm))
          | n + 2, ht => simp at ht
        rcases h3 with h3 | h3
        all_goals (subst h3; exact (show Tryz.prog.wantsStandIn _ = false by kernel_rfl))⟩)
    (by kernel_rfl)

end Go.Proofs.YtapndkailgcboaaGreatDoor
