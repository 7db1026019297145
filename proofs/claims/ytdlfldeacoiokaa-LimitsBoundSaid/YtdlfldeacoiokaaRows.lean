/-
  No cell of these rows narrows 'for every input' (looked for: loops, veiled, ifaces, maps, wideKeys, modest, calm, conditions, laid).
  DERIVED. THE GIVEN ROWS OF THIS SEAT. 6 by the template 'for every input the law returns true; each argument reads behind the call as it read before'; 0 by the template 'total and deterministic' (their statements: YtdlfldeacoiokaaTotals.lean).
  GIVEN WITH THE SEED: the statements are not yours to turn. If you find one false, say at which input.
  Laid BY PROGRAM, IN A SANDBOX (cutbox-rows.mjs): the forced cells as the released guide's own fill.sh prints them over the translation 0bf0d298d253962c… (all of the seat's roots in one cut). By AI agents, Wed Nov 11 2026. No macro, syntax, notation, axiom, sorry.
-/
import Derived.Test.YtdlfldeacoiokaaChecked
import GoSem.Claim
import GoSem.ClaimJoined
import GoSem.ClaimMapViews
import Derived.JoinedTies
import Derived.KernelRfl
namespace Go.Proofs.Ytdlfldeacoiokaa
/- THE CELL 'sum', in the pinned program and in every row, IS THE sha256 OF THE DUMP (.gsa) THAT YtdlfldeacoiokaaProg.lean LOADS. Nothing in Lean hashes anything: it is a label: what it is worth is what the hold of that sum in a sandbox is worth. -/
noncomputable def Try.pinned : Pinned := { name := "ytdlfldeacoiokaa", sum := "0bf0d298d253962c9b793ecb3aff62b87cd4afb2d555028c6c0f33ba7eef8ff2", checked := Try.checked }
namespace Rows
def none {H : Type} : Left H := { results := [], args := [] }

/-- 'brokerlaw21.LimitsChecks': WHATEVER THE INPUT: true; the input reads as it did. -/
def limitsChecksSpec : ChangeSpec := { name := "limitsChecks", fn := fun _ => fun
  | [d] => { results := [.lit (.bool true)], args := [d] }
  | _ => none }
def limitsChecksRow : OpenClaim := { program := "ytdlfldeacoiokaa", sum := "0bf0d298d253962c9b793ecb3aff62b87cd4afb2d555028c6c0f33ba7eef8ff2", func := "broker/brokerlaw21.LimitsChecks", spec := "limitsChecks", apart := false }
def LimitsChecksSaid : Prop := limitsChecksRow.holds Try.pinned (OpenSpec.ofChange limitsChecksSpec)

/-- ITS FALSE NEIGHBOUR: 'it returns false'. Refute it at one input. -/
def limitsChecksWrong : ChangeSpec := { name := "limitsChecks", fn := fun _ => fun
  | [d] => { results := [.lit (.bool false)], args := [d] }
  | _ => none }
def LimitsChecksWrongFalsely : Prop := limitsChecksRow.holds Try.pinned (OpenSpec.ofChange limitsChecksWrong)

/-- 'brokerlaw21.LimitsTakes': WHATEVER THE INPUT: true; the input reads as it did. -/
def limitsTakesSpec : ChangeSpec := { name := "limitsTakes", fn := fun _ => fun
  | [d1, d2, d3] => { results := [.lit (.bool true)], args := [d1, d2, d3] }
  | _ => none }
def limitsTakesRow : OpenClaim := { program := "ytdlfldeacoiokaa", sum := "0bf0d298d253962c9b793ecb3aff62b87cd4afb2d555028c6c0f33ba7eef8ff2", func := "broker/brokerlaw21.LimitsTakes", spec := "limitsTakes", apart := false }
def LimitsTakesSaid : Prop := limitsTakesRow.holds Try.pinned (OpenSpec.ofChange limitsTakesSpec)

/-- ITS FALSE NEIGHBOUR: 'it returns false'. Refute it at one input. -/
def limitsTakesWrong : ChangeSpec := { name := "limitsTakes", fn := fun _ => fun
  | [d1, d2, d3] => { results := [.lit (.bool false)], args := [d1, d2, d3] }
  | _ => none }
def LimitsTakesWrongFalsely : Prop := limitsTakesRow.holds Try.pinned (OpenSpec.ofChange limitsTakesWrong)

/-- 'brokerlaw21.LimitsWaits': WHATEVER THE INPUT: true; the input reads as it did. -/
def limitsWaitsSpec : ChangeSpec := { name := "limitsWaits", fn := fun _ => fun
  | [d1, d2, d3] => { results := [.lit (.bool true)], args := [d1, d2, d3] }
  | _ => none }
def limitsWaitsRow : OpenClaim := { program := "ytdlfldeacoiokaa", sum := "0bf0d298d253962c9b793ecb3aff62b87cd4afb2d555028c6c0f33ba7eef8ff2", func := "broker/brokerlaw21.LimitsWaits", spec := "limitsWaits", apart := false }
def LimitsWaitsSaid : Prop := limitsWaitsRow.holds Try.pinned (OpenSpec.ofChange limitsWaitsSpec)

/-- ITS FALSE NEIGHBOUR: 'it returns false'. Refute it at one input. -/
def limitsWaitsWrong : ChangeSpec := { name := "limitsWaits", fn := fun _ => fun
  | [d1, d2, d3] => { results := [.lit (.bool false)], args := [d1, d2, d3] }
  | _ => none }
def LimitsWaitsWrongFalsely : Prop := limitsWaitsRow.holds Try.pinned (OpenSpec.ofChange limitsWaitsWrong)

/-- 'brokerlaw21.LimitsFirst': WHATEVER THE INPUT: true; the input reads as it did. -/
def limitsFirstSpec : ChangeSpec := { name := "limitsFirst", fn := fun _ => fun
  | [d1, d2, d3, d4] => { results := [.lit (.bool true)], args := [d1, d2, d3, d4] }
  | _ => none }
def limitsFirstRow : OpenClaim := { program := "ytdlfldeacoiokaa", sum := "0bf0d298d253962c9b793ecb3aff62b87cd4afb2d555028c6c0f33ba7eef8ff2", func := "broker/brokerlaw21.LimitsFirst", spec := "limitsFirst", apart := false }
def LimitsFirstSaid : Prop := limitsFirstRow.holds Try.pinned (OpenSpec.ofChange limitsFirstSpec)

/-- ITS FALSE NEIGHBOUR: 'it returns false'. Refute it at one input. -/
def limitsFirstWrong : ChangeSpec := { name := "limitsFirst", fn := fun _ => fun
  | [d1, d2, d3, d4] => { results := [.lit (.bool false)], args := [d1, d2, d3, d4] }
  | _ => none }
def LimitsFirstWrongFalsely : Prop := limitsFirstRow.holds Try.pinned (OpenSpec.ofChange limitsFirstWrong)

/-- 'brokerlaw21.LimitsSplits': WHATEVER THE INPUT: true; the input reads as it did. -/
def limitsSplitsSpec : ChangeSpec := { name := "limitsSplits", fn := fun _ => fun
  | [d1, d2, d3] => { results := [.lit (.bool true)], args := [d1, d2, d3] }
  | _ => none }
def limitsSplitsRow : OpenClaim := { program := "ytdlfldeacoiokaa", sum := "0bf0d298d253962c9b793ecb3aff62b87cd4afb2d555028c6c0f33ba7eef8ff2", func := "broker/brokerlaw21.LimitsSplits", spec := "limitsSplits", apart := false }
def LimitsSplitsSaid : Prop := limitsSplitsRow.holds Try.pinned (OpenSpec.ofChange limitsSplitsSpec)

/-- ITS FALSE NEIGHBOUR: 'it returns false'. Refute it at one input. -/
def limitsSplitsWrong : ChangeSpec := { name := "limitsSplits", fn := fun _ => fun
  | [d1, d2, d3] => { results := [.lit (.bool false)], args := [d1, d2, d3] }
  | _ => none }
def LimitsSplitsWrongFalsely : Prop := limitsSplitsRow.holds Try.pinned (OpenSpec.ofChange limitsSplitsWrong)

/-- 'brokerlaw21.LimitsBound': WHATEVER THE INPUT: true; the input reads as it did. -/
def limitsBoundSpec : ChangeSpec := { name := "limitsBound", fn := fun _ => fun
  | [d1, d2, d3] => { results := [.lit (.bool true)], args := [d1, d2, d3] }
  | _ => none }
def limitsBoundRow : OpenClaim := { program := "ytdlfldeacoiokaa", sum := "0bf0d298d253962c9b793ecb3aff62b87cd4afb2d555028c6c0f33ba7eef8ff2", func := "broker/brokerlaw21.LimitsBound", spec := "limitsBound", apart := false }
def LimitsBoundSaid : Prop := limitsBoundRow.holds Try.pinned (OpenSpec.ofChange limitsBoundSpec)

/-- ITS FALSE NEIGHBOUR: 'it returns false'. Refute it at one input. -/
def limitsBoundWrong : ChangeSpec := { name := "limitsBound", fn := fun _ => fun
  | [d1, d2, d3] => { results := [.lit (.bool false)], args := [d1, d2, d3] }
  | _ => none }
def LimitsBoundWrongFalsely : Prop := limitsBoundRow.holds Try.pinned (OpenSpec.ofChange limitsBoundWrong)

/- THE SECOND FORM. 'bulk': how many values and letters a reading holds, each counted each time it is reached (what is shared counts as often as it is met; a slice's spare places count too). A statement '..UptoSaid' is the law's where the arguments, and the package variables that the reading takes, are together of bulk at most 1048576: NARROWER than '..Said'. Prove '..Said' where nothing that the law and all that it calls make is longer than what came in: it says more and counts as full. Else prove '..UptoSaid'. A law counts once. -/
mutual
def uptoBulk {H : Type} : DataW H → Nat
  | .lit (.string bytes) => bytes.length + 1
  | .lit _ => 1
  | .nil => 1
  | .ptr d => uptoBulk d + 1
  | .slice elems spare => uptoBulkAll elems + uptoBulkAll spare + 1
  | .agg parts => uptoBulkAll parts + 1
  | .iface _ d => uptoBulk d + 1
  | .map entries => uptoBulkEntries entries + 1
  | .held _ => 1
def uptoBulkAll {H : Type} : List (DataW H) → Nat
  | [] => 0
  | d :: r => uptoBulk d + uptoBulkAll r
def uptoBulkEntries {H : Type} : List (Lit × DataW H) → Nat
  | [] => 0
  | x :: r => uptoBulkEntry x + uptoBulkEntries r
def uptoBulkEntry {H : Type} : Lit × DataW H → Nat
  | (.string bytes, d) => bytes.length + uptoBulk d + 1
  | (_, d) => uptoBulk d + 1
 end
def uptoSmall : (H : Type) → List (DataW H) → Bool := fun _ ds => decide (uptoBulkAll ds ≤ 1048576)
def OpenSpec.upto (s : _root_.Go.ChangeSpec) : _root_.Go.OpenSpec := { _root_.Go.OpenSpec.ofChange s with cond := some uptoSmall }

/-- 'brokerlaw21.LimitsChecks', WHERE WHAT IT READS IS OF BULK AT MOST 1048576: true; the input reads as it did. -/
def limitsChecksUptoRow : OpenClaim := { program := "ytdlfldeacoiokaa", sum := "0bf0d298d253962c9b793ecb3aff62b87cd4afb2d555028c6c0f33ba7eef8ff2", func := "broker/brokerlaw21.LimitsChecks", spec := "limitsChecks", apart := false, narrowed := true }
def LimitsChecksUptoSaid : Prop := limitsChecksUptoRow.holds Try.pinned (OpenSpec.upto limitsChecksSpec)

/-- 'brokerlaw21.LimitsTakes', WHERE WHAT IT READS IS OF BULK AT MOST 1048576: true; the input reads as it did. -/
def limitsTakesUptoRow : OpenClaim := { program := "ytdlfldeacoiokaa", sum := "0bf0d298d253962c9b793ecb3aff62b87cd4afb2d555028c6c0f33ba7eef8ff2", func := "broker/brokerlaw21.LimitsTakes", spec := "limitsTakes", apart := false, narrowed := true }
def LimitsTakesUptoSaid : Prop := limitsTakesUptoRow.holds Try.pinned (OpenSpec.upto limitsTakesSpec)

/-- 'brokerlaw21.LimitsWaits', WHERE WHAT IT READS IS OF BULK AT MOST 1048576: true; the input reads as it did. -/
def limitsWaitsUptoRow : OpenClaim := { program := "ytdlfldeacoiokaa", sum := "0bf0d298d253962c9b793ecb3aff62b87cd4afb2d555028c6c0f33ba7eef8ff2", func := "broker/brokerlaw21.LimitsWaits", spec := "limitsWaits", apart := false, narrowed := true }
def LimitsWaitsUptoSaid : Prop := limitsWaitsUptoRow.holds Try.pinned (OpenSpec.upto limitsWaitsSpec)

/-- 'brokerlaw21.LimitsFirst', WHERE WHAT IT READS IS OF BULK AT MOST 1048576: true; the input reads as it did. -/
def limitsFirstUptoRow : OpenClaim := { program := "ytdlfldeacoiokaa", sum := "0bf0d298d253962c9b793ecb3aff62b87cd4afb2d555028c6c0f33ba7eef8ff2", func := "broker/brokerlaw21.LimitsFirst", spec := "limitsFirst", apart := false, narrowed := true }
def LimitsFirstUptoSaid : Prop := limitsFirstUptoRow.holds Try.pinned (OpenSpec.upto limitsFirstSpec)

/-- 'brokerlaw21.LimitsSplits', WHERE WHAT IT READS IS OF BULK AT MOST 1048576: true; the input reads as it did. -/
def limitsSplitsUptoRow : OpenClaim := { program := "ytdlfldeacoiokaa", sum := "0bf0d298d253962c9b793ecb3aff62b87cd4afb2d555028c6c0f33ba7eef8ff2", func := "broker/brokerlaw21.LimitsSplits", spec := "limitsSplits", apart := false, narrowed := true }
def LimitsSplitsUptoSaid : Prop := limitsSplitsUptoRow.holds Try.pinned (OpenSpec.upto limitsSplitsSpec)

/-- 'brokerlaw21.LimitsBound', WHERE WHAT IT READS IS OF BULK AT MOST 1048576: true; the input reads as it did. -/
def limitsBoundUptoRow : OpenClaim := { program := "ytdlfldeacoiokaa", sum := "0bf0d298d253962c9b793ecb3aff62b87cd4afb2d555028c6c0f33ba7eef8ff2", func := "broker/brokerlaw21.LimitsBound", spec := "limitsBound", apart := false, narrowed := true }
def LimitsBoundUptoSaid : Prop := limitsBoundUptoRow.holds Try.pinned (OpenSpec.upto limitsBoundSpec)

end Rows
end Go.Proofs.Ytdlfldeacoiokaa
