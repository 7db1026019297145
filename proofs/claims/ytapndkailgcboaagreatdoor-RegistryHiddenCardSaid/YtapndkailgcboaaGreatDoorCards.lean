/-
  DERIVED. GIVEN WITH THE SEED: THE CARDS: each row of YtapndkailgcboaaGreatDoorRows.lean that lists a variable, with what it lists TIED to the program's text (the seventh form; the later family's looks); each row that meets fmt, with fmt's text TOLD by the authors' own Lean function (tested against real Go, not proved from fmt's source: count such statements apart). THE CARD IS WHAT COUNTS. Prove the row's statement (the work); the ties are given (YtapndkailgcboaaGreatDoorTie.lean); close each card by the builder's one call (the guide's Derived/Test/ToyasCard.lean, 'card_holds'). Laid BY PROGRAM, IN A SANDBOX (cutbox-door.mjs). By AI agents, Wed Nov 11 2026. No macro, syntax, notation, axiom, sorry.
-/
import Derived.Test.YtapndkailgcboaaGreatDoorRows
import GoSem.ClaimSeven
namespace Go.Proofs.YtapndkailgcboaaGreatDoor
namespace Rows

/-- THE TIED CARD OF 'brokerlaw23.RegistryChecks'. -/
def registryChecksCard : Claim7 := { stood := { row := registryChecksRow, standIns := [], harness := (true, "a292012d309c66aeea6ef3c5a40b1ec9281010e5e613a89039b7d5fff0600aec"), looks := true }, kinds := [], alts := [], laidByText := true, laidKinds := [.data, .data, .data, .data, .pinned], laidTests := true, laidLooks := .later }
def RegistryChecksCardSaid : Prop := Claim7.holds Tryz.pinned (.plain (OpenSpec.ofChange registryChecksSpec)) registryChecksCard

/-- THE TIED CARD OF 'brokerlaw23.RegistryModes'. -/
def registryModesCard : Claim7 := { stood := { row := registryModesRow, standIns := [], harness := (true, "a292012d309c66aeea6ef3c5a40b1ec9281010e5e613a89039b7d5fff0600aec"), looks := true }, kinds := [], alts := [], laidByText := true, laidKinds := [.data, .data, .data, .data, .pinned], laidTests := true, laidLooks := .later }
def RegistryModesCardSaid : Prop := Claim7.holds Tryz.pinned (.plain (OpenSpec.ofChange registryModesSpec)) registryModesCard

/-- THE TIED CARD OF 'brokerlaw23.RegistryAdds'. -/
def registryAddsCard : Claim7 := { stood := { row := registryAddsRow, standIns := [], harness := (true, "a292012d309c66aeea6ef3c5a40b1ec9281010e5e613a89039b7d5fff0600aec"), looks := true }, kinds := [], alts := [], laidByText := true, laidKinds := [.data, .data, .data, .data, .pinned], laidTests := true, laidLooks := .later }
def RegistryAddsCardSaid : Prop := Claim7.holds Tryz.pinned (.plain (OpenSpec.ofChange registryAddsSpec)) registryAddsCard

/-- THE TIED CARD OF 'brokerlaw23.RegistryRegisters'. -/
def registryRegistersCard : Claim7 := { stood := { row := registryRegistersRow, standIns := [], harness := (true, "a292012d309c66aeea6ef3c5a40b1ec9281010e5e613a89039b7d5fff0600aec"), looks := true }, kinds := [], alts := [], laidByText := true, laidKinds := [.data, .data, .data, .data, .pinned], laidTests := true, laidLooks := .later }
def RegistryRegistersCardSaid : Prop := Claim7.holds Tryz.pinned (.plain (OpenSpec.ofChange registryRegistersSpec)) registryRegistersCard

/-- THE TIED CARD OF 'brokerlaw23.RegistryFinds'. -/
def registryFindsCard : Claim7 := { stood := { row := registryFindsRow, standIns := [], harness := (true, "a292012d309c66aeea6ef3c5a40b1ec9281010e5e613a89039b7d5fff0600aec"), looks := true }, kinds := [], alts := [], laidByText := true, laidKinds := [.data, .data, .data, .data, .pinned], laidTests := true, laidLooks := .later }
def RegistryFindsCardSaid : Prop := Claim7.holds Tryz.pinned (.plain (OpenSpec.ofChange registryFindsSpec)) registryFindsCard

/-- THE TIED CARD OF 'brokerlaw23.RegistryHidden'. -/
def registryHiddenCard : Claim7 := { stood := { row := registryHiddenRow, standIns := [], harness := (true, "a292012d309c66aeea6ef3c5a40b1ec9281010e5e613a89039b7d5fff0600aec"), looks := true }, kinds := [], alts := [], laidByText := true, laidKinds := [.data, .data, .data, .data, .pinned], laidTests := true, laidLooks := .later }
def RegistryHiddenCardSaid : Prop := Claim7.holds Tryz.pinned (.plain (OpenSpec.ofChange registryHiddenSpec)) registryHiddenCard

/-- THE TIED CARD OF 'brokerlaw23.RegistryRuns'. -/
def registryRunsCard : Claim7 := { stood := { row := registryRunsRow, standIns := [], harness := (true, "a292012d309c66aeea6ef3c5a40b1ec9281010e5e613a89039b7d5fff0600aec"), looks := true }, kinds := [], alts := [], laidByText := true, laidKinds := [.data, .data, .data, .data, .pinned], laidTests := true, laidLooks := .later }
def RegistryRunsCardSaid : Prop := Claim7.holds Tryz.pinned (.plain (OpenSpec.ofChange registryRunsSpec)) registryRunsCard

/-- THE SECOND FORM's CARD OF 'brokerlaw23.RegistryChecks'. -/
def registryChecksUptoCard : Claim7 := { stood := { row := registryChecksUptoRow, standIns := [], harness := (true, "a292012d309c66aeea6ef3c5a40b1ec9281010e5e613a89039b7d5fff0600aec"), looks := true }, kinds := [], alts := [], laidByText := true, laidKinds := [.data, .data, .data, .data, .pinned], laidTests := true, laidLooks := .later }
def RegistryChecksUptoCardSaid : Prop := Claim7.holds Tryz.pinned (.plain (OpenSpec.upto registryChecksSpec)) registryChecksUptoCard

/-- THE SECOND FORM's CARD OF 'brokerlaw23.RegistryModes'. -/
def registryModesUptoCard : Claim7 := { stood := { row := registryModesUptoRow, standIns := [], harness := (true, "a292012d309c66aeea6ef3c5a40b1ec9281010e5e613a89039b7d5fff0600aec"), looks := true }, kinds := [], alts := [], laidByText := true, laidKinds := [.data, .data, .data, .data, .pinned], laidTests := true, laidLooks := .later }
def RegistryModesUptoCardSaid : Prop := Claim7.holds Tryz.pinned (.plain (OpenSpec.upto registryModesSpec)) registryModesUptoCard

/-- THE SECOND FORM's CARD OF 'brokerlaw23.RegistryAdds'. -/
def registryAddsUptoCard : Claim7 := { stood := { row := registryAddsUptoRow, standIns := [], harness := (true, "a292012d309c66aeea6ef3c5a40b1ec9281010e5e613a89039b7d5fff0600aec"), looks := true }, kinds := [], alts := [], laidByText := true, laidKinds := [.data, .data, .data, .data, .pinned], laidTests := true, laidLooks := .later }
def RegistryAddsUptoCardSaid : Prop := Claim7.holds Tryz.pinned (.plain (OpenSpec.upto registryAddsSpec)) registryAddsUptoCard

/-- THE SECOND FORM's CARD OF 'brokerlaw23.RegistryRegisters'. -/
def registryRegistersUptoCard : Claim7 := { stood := { row := registryRegistersUptoRow, standIns := [], harness := (true, "a292012d309c66aeea6ef3c5a40b1ec9281010e5e613a89039b7d5fff0600aec"), looks := true }, kinds := [], alts := [], laidByText := true, laidKinds := [.data, .data, .data, .data, .pinned], laidTests := true, laidLooks := .later }
def RegistryRegistersUptoCardSaid : Prop := Claim7.holds Tryz.pinned (.plain (OpenSpec.upto registryRegistersSpec)) registryRegistersUptoCard

/-- THE SECOND FORM's CARD OF 'brokerlaw23.RegistryFinds'. -/
def registryFindsUptoCard : Claim7 := { stood := { row := registryFindsUptoRow, standIns := [], harness := (true, "a292012d309c66aeea6ef3c5a40b1ec9281010e5e613a89039b7d5fff0600aec"), looks := true }, kinds := [], alts := [], laidByText := true, laidKinds := [.data, .data, .data, .data, .pinned], laidTests := true, laidLooks := .later }
def RegistryFindsUptoCardSaid : Prop := Claim7.holds Tryz.pinned (.plain (OpenSpec.upto registryFindsSpec)) registryFindsUptoCard

/-- THE SECOND FORM's CARD OF 'brokerlaw23.RegistryHidden'. -/
def registryHiddenUptoCard : Claim7 := { stood := { row := registryHiddenUptoRow, standIns := [], harness := (true, "a292012d309c66aeea6ef3c5a40b1ec9281010e5e613a89039b7d5fff0600aec"), looks := true }, kinds := [], alts := [], laidByText := true, laidKinds := [.data, .data, .data, .data, .pinned], laidTests := true, laidLooks := .later }
def RegistryHiddenUptoCardSaid : Prop := Claim7.holds Tryz.pinned (.plain (OpenSpec.upto registryHiddenSpec)) registryHiddenUptoCard

/-- THE SECOND FORM's CARD OF 'brokerlaw23.RegistryRuns'. -/
def registryRunsUptoCard : Claim7 := { stood := { row := registryRunsUptoRow, standIns := [], harness := (true, "a292012d309c66aeea6ef3c5a40b1ec9281010e5e613a89039b7d5fff0600aec"), looks := true }, kinds := [], alts := [], laidByText := true, laidKinds := [.data, .data, .data, .data, .pinned], laidTests := true, laidLooks := .later }
def RegistryRunsUptoCardSaid : Prop := Claim7.holds Tryz.pinned (.plain (OpenSpec.upto registryRunsSpec)) registryRunsUptoCard
end Rows
end Go.Proofs.YtapndkailgcboaaGreatDoor
