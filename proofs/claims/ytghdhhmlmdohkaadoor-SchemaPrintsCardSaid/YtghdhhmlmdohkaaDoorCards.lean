/-
  DERIVED. GIVEN WITH THE SEED: THE CARDS: each row of YtghdhhmlmdohkaaDoorRows.lean that lists a variable, with what it lists TIED to the program's text (the seventh form; the later family's looks); each row that meets fmt, with fmt's text TOLD by the authors' own Lean function (tested against real Go, not proved from fmt's source: count such statements apart). THE CARD IS WHAT COUNTS. Prove the row's statement (the work); the ties are given (YtghdhhmlmdohkaaDoorTie.lean); close each card by the builder's one call (the guide's Derived/Test/ToyasCard.lean, 'card_holds'). Laid BY PROGRAM, IN A SANDBOX (cutbox-door.mjs). By AI agents, Wed Nov 11 2026. No macro, syntax, notation, axiom, sorry.
-/
import Derived.Test.YtghdhhmlmdohkaaDoorRows
import GoSem.ClaimSeven
namespace Go.Proofs.YtghdhhmlmdohkaaDoor
namespace Rows

/-- THE TIED CARD OF 'brokerlaw22.SchemaChecks'. -/
def schemaChecksCard : Claim7 := { stood := { row := schemaChecksRow, standIns := [], harness := (true, "fa1d9d286f11b4ef66c4c38cb5f00b32a289cc4d1ef5b30906d8023b57631edb"), looks := true }, kinds := [], alts := [], laidByText := true, laidKinds := [.data, .data, .data], laidTests := true, laidLooks := .later }
def SchemaChecksCardSaid : Prop := Claim7.holds Tryd.pinned (.plain (OpenSpec.ofChange schemaChecksSpec)) schemaChecksCard

/-- THE TIED CARD OF 'brokerlaw22.SchemaPrints'. -/
def schemaPrintsCard : Claim7 := { stood := { row := schemaPrintsRow, standIns := [], harness := (true, "fa1d9d286f11b4ef66c4c38cb5f00b32a289cc4d1ef5b30906d8023b57631edb"), looks := true }, kinds := [], alts := [], laidByText := true, laidKinds := [.data, .data, .data], laidTests := true, laidLooks := .later }
def SchemaPrintsCardSaid : Prop := Claim7.holds Tryd.pinned (.plain (OpenSpec.ofChange schemaPrintsSpec)) schemaPrintsCard

/-- THE TIED CARD OF 'brokerlaw22.SchemaWrites'. -/
def schemaWritesCard : Claim7 := { stood := { row := schemaWritesRow, standIns := [], harness := (true, "fa1d9d286f11b4ef66c4c38cb5f00b32a289cc4d1ef5b30906d8023b57631edb"), looks := true }, kinds := [], alts := [], laidByText := true, laidKinds := [.data, .data, .data], laidTests := true, laidLooks := .later }
def SchemaWritesCardSaid : Prop := Claim7.holds Tryd.pinned (.plain (OpenSpec.ofChange schemaWritesSpec)) schemaWritesCard

/-- THE TIED CARD OF 'brokerlaw22.SchemaValues'. -/
def schemaValuesCard : Claim7 := { stood := { row := schemaValuesRow, standIns := [], harness := (true, "fa1d9d286f11b4ef66c4c38cb5f00b32a289cc4d1ef5b30906d8023b57631edb"), looks := true }, kinds := [], alts := [], laidByText := true, laidKinds := [.data, .data, .data], laidTests := true, laidLooks := .later }
def SchemaValuesCardSaid : Prop := Claim7.holds Tryd.pinned (.plain (OpenSpec.ofChange schemaValuesSpec)) schemaValuesCard

/-- THE TIED CARD OF 'brokerlaw22.SchemaFits'. -/
def schemaFitsCard : Claim7 := { stood := { row := schemaFitsRow, standIns := [], harness := (true, "fa1d9d286f11b4ef66c4c38cb5f00b32a289cc4d1ef5b30906d8023b57631edb"), looks := true }, kinds := [], alts := [], laidByText := true, laidKinds := [.data, .data, .data], laidTests := true, laidLooks := .later }
def SchemaFitsCardSaid : Prop := Claim7.holds Tryd.pinned (.plain (OpenSpec.ofChange schemaFitsSpec)) schemaFitsCard

/-- THE TIED CARD OF 'brokerlaw22.SchemaCompares'. -/
def schemaComparesCard : Claim7 := { stood := { row := schemaComparesRow, standIns := [], harness := (true, "fa1d9d286f11b4ef66c4c38cb5f00b32a289cc4d1ef5b30906d8023b57631edb"), looks := true }, kinds := [], alts := [], laidByText := true, laidKinds := [.data, .data, .data], laidTests := true, laidLooks := .later }
def SchemaComparesCardSaid : Prop := Claim7.holds Tryd.pinned (.plain (OpenSpec.ofChange schemaComparesSpec)) schemaComparesCard

/-- THE TIED CARD OF 'brokerlaw22.SchemaIncludes'. -/
def schemaIncludesCard : Claim7 := { stood := { row := schemaIncludesRow, standIns := [], harness := (true, "fa1d9d286f11b4ef66c4c38cb5f00b32a289cc4d1ef5b30906d8023b57631edb"), looks := true }, kinds := [], alts := [], laidByText := true, laidKinds := [.data, .data, .data], laidTests := true, laidLooks := .later }
def SchemaIncludesCardSaid : Prop := Claim7.holds Tryd.pinned (.plain (OpenSpec.ofChange schemaIncludesSpec)) schemaIncludesCard

/-- THE TIED CARD OF 'brokerlaw22.SchemaChains'. -/
def schemaChainsCard : Claim7 := { stood := { row := schemaChainsRow, standIns := [], harness := (true, "fa1d9d286f11b4ef66c4c38cb5f00b32a289cc4d1ef5b30906d8023b57631edb"), looks := true }, kinds := [], alts := [], laidByText := true, laidKinds := [.data, .data, .data], laidTests := true, laidLooks := .later }
def SchemaChainsCardSaid : Prop := Claim7.holds Tryd.pinned (.plain (OpenSpec.ofChange schemaChainsSpec)) schemaChainsCard

/-- THE TIED CARD OF 'brokerlaw23.RegistryReads'. -/
def registryReadsCard : Claim7 := { stood := { row := registryReadsRow, standIns := [], harness := (true, "fa1d9d286f11b4ef66c4c38cb5f00b32a289cc4d1ef5b30906d8023b57631edb"), looks := true }, kinds := [], alts := [], laidByText := true, laidKinds := [.data, .data, .data, .data, .pinned], laidTests := true, laidLooks := .later }
def RegistryReadsCardSaid : Prop := Claim7.holds Tryd.pinned (.plain (OpenSpec.ofChange registryReadsSpec)) registryReadsCard

/-- THE SECOND FORM's CARD OF 'brokerlaw22.SchemaChecks'. -/
def schemaChecksUptoCard : Claim7 := { stood := { row := schemaChecksUptoRow, standIns := [], harness := (true, "fa1d9d286f11b4ef66c4c38cb5f00b32a289cc4d1ef5b30906d8023b57631edb"), looks := true }, kinds := [], alts := [], laidByText := true, laidKinds := [.data, .data, .data], laidTests := true, laidLooks := .later }
def SchemaChecksUptoCardSaid : Prop := Claim7.holds Tryd.pinned (.plain (OpenSpec.upto schemaChecksSpec)) schemaChecksUptoCard

/-- THE SECOND FORM's CARD OF 'brokerlaw22.SchemaPrints'. -/
def schemaPrintsUptoCard : Claim7 := { stood := { row := schemaPrintsUptoRow, standIns := [], harness := (true, "fa1d9d286f11b4ef66c4c38cb5f00b32a289cc4d1ef5b30906d8023b57631edb"), looks := true }, kinds := [], alts := [], laidByText := true, laidKinds := [.data, .data, .data], laidTests := true, laidLooks := .later }
def SchemaPrintsUptoCardSaid : Prop := Claim7.holds Tryd.pinned (.plain (OpenSpec.upto schemaPrintsSpec)) schemaPrintsUptoCard

/-- THE SECOND FORM's CARD OF 'brokerlaw22.SchemaWrites'. -/
def schemaWritesUptoCard : Claim7 := { stood := { row := schemaWritesUptoRow, standIns := [], harness := (true, "fa1d9d286f11b4ef66c4c38cb5f00b32a289cc4d1ef5b30906d8023b57631edb"), looks := true }, kinds := [], alts := [], laidByText := true, laidKinds := [.data, .data, .data], laidTests := true, laidLooks := .later }
def SchemaWritesUptoCardSaid : Prop := Claim7.holds Tryd.pinned (.plain (OpenSpec.upto schemaWritesSpec)) schemaWritesUptoCard

/-- THE SECOND FORM's CARD OF 'brokerlaw22.SchemaValues'. -/
def schemaValuesUptoCard : Claim7 := { stood := { row := schemaValuesUptoRow, standIns := [], harness := (true, "fa1d9d286f11b4ef66c4c38cb5f00b32a289cc4d1ef5b30906d8023b57631edb"), looks := true }, kinds := [], alts := [], laidByText := true, laidKinds := [.data, .data, .data], laidTests := true, laidLooks := .later }
def SchemaValuesUptoCardSaid : Prop := Claim7.holds Tryd.pinned (.plain (OpenSpec.upto schemaValuesSpec)) schemaValuesUptoCard

/-- THE SECOND FORM's CARD OF 'brokerlaw22.SchemaFits'. -/
def schemaFitsUptoCard : Claim7 := { stood := { row := schemaFitsUptoRow, standIns := [], harness := (true, "fa1d9d286f11b4ef66c4c38cb5f00b32a289cc4d1ef5b30906d8023b57631edb"), looks := true }, kinds := [], alts := [], laidByText := true, laidKinds := [.data, .data, .data], laidTests := true, laidLooks := .later }
def SchemaFitsUptoCardSaid : Prop := Claim7.holds Tryd.pinned (.plain (OpenSpec.upto schemaFitsSpec)) schemaFitsUptoCard

/-- THE SECOND FORM's CARD OF 'brokerlaw22.SchemaCompares'. -/
def schemaComparesUptoCard : Claim7 := { stood := { row := schemaComparesUptoRow, standIns := [], harness := (true, "fa1d9d286f11b4ef66c4c38cb5f00b32a289cc4d1ef5b30906d8023b57631edb"), looks := true }, kinds := [], alts := [], laidByText := true, laidKinds := [.data, .data, .data], laidTests := true, laidLooks := .later }
def SchemaComparesUptoCardSaid : Prop := Claim7.holds Tryd.pinned (.plain (OpenSpec.upto schemaComparesSpec)) schemaComparesUptoCard

/-- THE SECOND FORM's CARD OF 'brokerlaw22.SchemaIncludes'. -/
def schemaIncludesUptoCard : Claim7 := { stood := { row := schemaIncludesUptoRow, standIns := [], harness := (true, "fa1d9d286f11b4ef66c4c38cb5f00b32a289cc4d1ef5b30906d8023b57631edb"), looks := true }, kinds := [], alts := [], laidByText := true, laidKinds := [.data, .data, .data], laidTests := true, laidLooks := .later }
def SchemaIncludesUptoCardSaid : Prop := Claim7.holds Tryd.pinned (.plain (OpenSpec.upto schemaIncludesSpec)) schemaIncludesUptoCard

/-- THE SECOND FORM's CARD OF 'brokerlaw22.SchemaChains'. -/
def schemaChainsUptoCard : Claim7 := { stood := { row := schemaChainsUptoRow, standIns := [], harness := (true, "fa1d9d286f11b4ef66c4c38cb5f00b32a289cc4d1ef5b30906d8023b57631edb"), looks := true }, kinds := [], alts := [], laidByText := true, laidKinds := [.data, .data, .data], laidTests := true, laidLooks := .later }
def SchemaChainsUptoCardSaid : Prop := Claim7.holds Tryd.pinned (.plain (OpenSpec.upto schemaChainsSpec)) schemaChainsUptoCard

/-- THE SECOND FORM's CARD OF 'brokerlaw23.RegistryReads'. -/
def registryReadsUptoCard : Claim7 := { stood := { row := registryReadsUptoRow, standIns := [], harness := (true, "fa1d9d286f11b4ef66c4c38cb5f00b32a289cc4d1ef5b30906d8023b57631edb"), looks := true }, kinds := [], alts := [], laidByText := true, laidKinds := [.data, .data, .data, .data, .pinned], laidTests := true, laidLooks := .later }
def RegistryReadsUptoCardSaid : Prop := Claim7.holds Tryd.pinned (.plain (OpenSpec.upto registryReadsSpec)) registryReadsUptoCard
end Rows
end Go.Proofs.YtghdhhmlmdohkaaDoor
