/-
  DERIVED. GIVEN WITH THE SEED: THE CARDS: each row of YtmocefjnplmibaaGreatDoorRows.lean that lists a variable, with what it lists TIED to the program's text (the seventh form; the later family's looks); each row that meets fmt, with fmt's text TOLD by the authors' own Lean function (tested against real Go, not proved from fmt's source: count such statements apart). THE CARD IS WHAT COUNTS. Prove the row's statement (the work); the ties are given (YtmocefjnplmibaaGreatDoorTie.lean); close each card by the builder's one call (the guide's Derived/Test/ToyasCard.lean, 'card_holds'). Laid BY PROGRAM, IN A SANDBOX (cutbox-door.mjs). By AI agents, Wed Nov 11 2026. No macro, syntax, notation, axiom, sorry.
-/
import Derived.Test.YtmocefjnplmibaaGreatDoorRows
import GoSem.ClaimSeven
namespace Go.Proofs.YtmocefjnplmibaaGreatDoor
namespace Rows

/-- THE TIED CARD OF 'brokerlaw08.LineQuotes'. -/
def lineQuotesCard : Claim7 := { stood := { row := lineQuotesRow, standIns := [], harness := (true, "38537c0807cfd2b9090b725ca0906698063c5a231063f4495fad5c0513b17f95"), looks := true }, kinds := [], alts := [], laidByText := true, laidKinds := [.data, .data, .data, .data, .sentinel, .sentinel, .pinned], laidTests := true, laidLooks := .later }
def LineQuotesCardSaid : Prop := Claim7.holds Tryz.pinned (.plain (OpenSpec.ofChange lineQuotesSpec)) lineQuotesCard

/-- THE TIED CARD OF 'brokerlaw08.LinePlain'. -/
def linePlainCard : Claim7 := { stood := { row := linePlainRow, standIns := [], harness := (true, "38537c0807cfd2b9090b725ca0906698063c5a231063f4495fad5c0513b17f95"), looks := true }, kinds := [], alts := [], laidByText := true, laidKinds := [.data, .data, .data, .data, .sentinel, .sentinel, .pinned], laidTests := true, laidLooks := .later }
def LinePlainCardSaid : Prop := Claim7.holds Tryz.pinned (.plain (OpenSpec.ofChange linePlainSpec)) linePlainCard

/-- THE TIED CARD OF 'brokerlaw08.LineChecks'. -/
def lineChecksCard : Claim7 := { stood := { row := lineChecksRow, standIns := [], harness := (true, "38537c0807cfd2b9090b725ca0906698063c5a231063f4495fad5c0513b17f95"), looks := true }, kinds := [], alts := [], laidByText := true, laidKinds := [.data, .data, .data, .data, .sentinel, .sentinel, .pinned], laidTests := true, laidLooks := .later }
def LineChecksCardSaid : Prop := Claim7.holds Tryz.pinned (.plain (OpenSpec.ofChange lineChecksSpec)) lineChecksCard

/-- THE TIED CARD OF 'brokerlaw08.LineRequests'. -/
def lineRequestsCard : Claim7 := { stood := { row := lineRequestsRow, standIns := [], harness := (true, "38537c0807cfd2b9090b725ca0906698063c5a231063f4495fad5c0513b17f95"), looks := true }, kinds := [], alts := [], laidByText := true, laidKinds := [.data, .data, .data, .data, .sentinel, .sentinel, .pinned], laidTests := true, laidLooks := .later }
def LineRequestsCardSaid : Prop := Claim7.holds Tryz.pinned (.plain (OpenSpec.ofChange lineRequestsSpec)) lineRequestsCard

/-- THE TIED CARD OF 'brokerlaw08.LineParses'. -/
def lineParsesCard : Claim7 := { stood := { row := lineParsesRow, standIns := [], harness := (true, "38537c0807cfd2b9090b725ca0906698063c5a231063f4495fad5c0513b17f95"), looks := true }, kinds := [], alts := [], laidByText := true, laidKinds := [.data, .data, .data, .data, .sentinel, .sentinel, .pinned], laidTests := true, laidLooks := .later }
def LineParsesCardSaid : Prop := Claim7.holds Tryz.pinned (.plain (OpenSpec.ofChange lineParsesSpec)) lineParsesCard

/-- THE TIED CARD OF 'brokerlaw08.LineReplies'. -/
def lineRepliesCard : Claim7 := { stood := { row := lineRepliesRow, standIns := [], harness := (true, "38537c0807cfd2b9090b725ca0906698063c5a231063f4495fad5c0513b17f95"), looks := true }, kinds := [], alts := [], laidByText := true, laidKinds := [.data, .data, .data, .data, .sentinel, .sentinel, .pinned], laidTests := true, laidLooks := .later }
def LineRepliesCardSaid : Prop := Claim7.holds Tryz.pinned (.plain (OpenSpec.ofChange lineRepliesSpec)) lineRepliesCard

/-- THE TIED CARD OF 'brokerlaw08.LineBack'. -/
def lineBackCard : Claim7 := { stood := { row := lineBackRow, standIns := [], harness := (true, "38537c0807cfd2b9090b725ca0906698063c5a231063f4495fad5c0513b17f95"), looks := true }, kinds := [], alts := [], laidByText := true, laidKinds := [.data, .data, .data, .data, .sentinel, .sentinel, .pinned], laidTests := true, laidLooks := .later }
def LineBackCardSaid : Prop := Claim7.holds Tryz.pinned (.plain (OpenSpec.ofChange lineBackSpec)) lineBackCard

/-- THE TIED CARD OF 'brokerlaw08.LineOnly'. -/
def lineOnlyCard : Claim7 := { stood := { row := lineOnlyRow, standIns := [], harness := (true, "38537c0807cfd2b9090b725ca0906698063c5a231063f4495fad5c0513b17f95"), looks := true }, kinds := [], alts := [], laidByText := true, laidKinds := [.data, .data, .data, .data, .sentinel, .sentinel, .pinned], laidTests := true, laidLooks := .later }
def LineOnlyCardSaid : Prop := Claim7.holds Tryz.pinned (.plain (OpenSpec.ofChange lineOnlySpec)) lineOnlyCard

/-- THE SECOND FORM's CARD OF 'brokerlaw08.LineQuotes'. -/
def lineQuotesUptoCard : Claim7 := { stood := { row := lineQuotesUptoRow, standIns := [], harness := (true, "38537c0807cfd2b9090b725ca0906698063c5a231063f4495fad5c0513b17f95"), looks := true }, kinds := [], alts := [], laidByText := true, laidKinds := [.data, .data, .data, .data, .sentinel, .sentinel, .pinned], laidTests := true, laidLooks := .later }
def LineQuotesUptoCardSaid : Prop := Claim7.holds Tryz.pinned (.plain (OpenSpec.upto lineQuotesSpec)) lineQuotesUptoCard

/-- THE SECOND FORM's CARD OF 'brokerlaw08.LinePlain'. -/
def linePlainUptoCard : Claim7 := { stood := { row := linePlainUptoRow, standIns := [], harness := (true, "38537c0807cfd2b9090b725ca0906698063c5a231063f4495fad5c0513b17f95"), looks := true }, kinds := [], alts := [], laidByText := true, laidKinds := [.data, .data, .data, .data, .sentinel, .sentinel, .pinned], laidTests := true, laidLooks := .later }
def LinePlainUptoCardSaid : Prop := Claim7.holds Tryz.pinned (.plain (OpenSpec.upto linePlainSpec)) linePlainUptoCard

/-- THE SECOND FORM's CARD OF 'brokerlaw08.LineChecks'. -/
def lineChecksUptoCard : Claim7 := { stood := { row := lineChecksUptoRow, standIns := [], harness := (true, "38537c0807cfd2b9090b725ca0906698063c5a231063f4495fad5c0513b17f95"), looks := true }, kinds := [], alts := [], laidByText := true, laidKinds := [.data, .data, .data, .data, .sentinel, .sentinel, .pinned], laidTests := true, laidLooks := .later }
def LineChecksUptoCardSaid : Prop := Claim7.holds Tryz.pinned (.plain (OpenSpec.upto lineChecksSpec)) lineChecksUptoCard

/-- THE SECOND FORM's CARD OF 'brokerlaw08.LineRequests'. -/
def lineRequestsUptoCard : Claim7 := { stood := { row := lineRequestsUptoRow, standIns := [], harness := (true, "38537c0807cfd2b9090b725ca0906698063c5a231063f4495fad5c0513b17f95"), looks := true }, kinds := [], alts := [], laidByText := true, laidKinds := [.data, .data, .data, .data, .sentinel, .sentinel, .pinned], laidTests := true, laidLooks := .later }
def LineRequestsUptoCardSaid : Prop := Claim7.holds Tryz.pinned (.plain (OpenSpec.upto lineRequestsSpec)) lineRequestsUptoCard

/-- THE SECOND FORM's CARD OF 'brokerlaw08.LineParses'. -/
def lineParsesUptoCard : Claim7 := { stood := { row := lineParsesUptoRow, standIns := [], harness := (true, "38537c0807cfd2b9090b725ca0906698063c5a231063f4495fad5c0513b17f95"), looks := true }, kinds := [], alts := [], laidByText := true, laidKinds := [.data, .data, .data, .data, .sentinel, .sentinel, .pinned], laidTests := true, laidLooks := .later }
def LineParsesUptoCardSaid : Prop := Claim7.holds Tryz.pinned (.plain (OpenSpec.upto lineParsesSpec)) lineParsesUptoCard

/-- THE SECOND FORM's CARD OF 'brokerlaw08.LineReplies'. -/
def lineRepliesUptoCard : Claim7 := { stood := { row := lineRepliesUptoRow, standIns := [], harness := (true, "38537c0807cfd2b9090b725ca0906698063c5a231063f4495fad5c0513b17f95"), looks := true }, kinds := [], alts := [], laidByText := true, laidKinds := [.data, .data, .data, .data, .sentinel, .sentinel, .pinned], laidTests := true, laidLooks := .later }
def LineRepliesUptoCardSaid : Prop := Claim7.holds Tryz.pinned (.plain (OpenSpec.upto lineRepliesSpec)) lineRepliesUptoCard

/-- THE SECOND FORM's CARD OF 'brokerlaw08.LineBack'. -/
def lineBackUptoCard : Claim7 := { stood := { row := lineBackUptoRow, standIns := [], harness := (true, "38537c0807cfd2b9090b725ca0906698063c5a231063f4495fad5c0513b17f95"), looks := true }, kinds := [], alts := [], laidByText := true, laidKinds := [.data, .data, .data, .data, .sentinel, .sentinel, .pinned], laidTests := true, laidLooks := .later }
def LineBackUptoCardSaid : Prop := Claim7.holds Tryz.pinned (.plain (OpenSpec.upto lineBackSpec)) lineBackUptoCard

/-- THE SECOND FORM's CARD OF 'brokerlaw08.LineOnly'. -/
def lineOnlyUptoCard : Claim7 := { stood := { row := lineOnlyUptoRow, standIns := [], harness := (true, "38537c0807cfd2b9090b725ca0906698063c5a231063f4495fad5c0513b17f95"), looks := true }, kinds := [], alts := [], laidByText := true, laidKinds := [.data, .data, .data, .data, .sentinel, .sentinel, .pinned], laidTests := true, laidLooks := .later }
def LineOnlyUptoCardSaid : Prop := Claim7.holds Tryz.pinned (.plain (OpenSpec.upto lineOnlySpec)) lineOnlyUptoCard
end Rows
end Go.Proofs.YtmocefjnplmibaaGreatDoor
