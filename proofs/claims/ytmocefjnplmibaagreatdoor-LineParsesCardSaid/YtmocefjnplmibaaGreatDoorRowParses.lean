/- The law LineParses returns true for every input, and what it is handed reads as it did. The card ties the library variables that are listed to the text of the program. No condition. -/
import Derived.Test.YtmocefjnplmibaaGreatDoorRows
import Derived.Test.YtmocefjnplmibaaGreatDoorCards
import Derived.Test.YtmocefjnplmibaaGreatDoorTie
import Derived.Test.YtmocefjnplmibaaGreatDoorLawParses
import Derived.LaidMore
import Derived.Stop.LaidErr
import Derived.SevenTiedAt
import Derived.Deep.DeepLaidRun
import Derived.Lib.LaidU8
namespace Go.Proofs.YtmocefjnplmibaaGreatDoor
open Go Go.Den Go.ChangeShapes Go.WideShapes Go.ChangeAt Go.RowKit
set_option maxRecDepth 100000

theorem LineParses.ownK : ownKnob Tryz.prog.godebug = none := by kernel_rfl
theorem LineParses.laidOut : laidOutB Tryz.prog = true := by kernel_rfl
theorem LineParses.shapes : shapesB Tryz.prog [9] = true := by kernel_rfl
abbrev LineParses.laid : List (String × DataW Unit) := Rows.lineParsesRow.laid
/-- A start that meets the listed variables: what the door's run leaves, and the pinned table of utf8. -/
noncomputable def LineW (os : Os) : World :=
  { World.doorLaid Tryz.prog 4000 os with heap := (World.doorLaid Tryz.prog 4000 os).heap.modify ((Tryz.prog.globalNamed "unicode/utf8.first").getD 0) fun
    | .cells _ t frozen => .cells (Lib.firstTab.map fun z => Value.int .u8 z).toArray t frozen
    | o => o }
theorem LineParses.door (os : Os) (args : Array Value) : laidMetH Tryz.prog LineParses.laid ((LineW os).forCall (fun _ _ => 0) ⟨#[], args, []⟩).memory :=
  laidMetH_of_parts3 (fuel := 10) (laidMet_of_run3 10 (by kernel_rfl) (by kernel_rfl) (by kernel_rfl)) (by kernel_rfl) (by kernel_rfl)
theorem star : "*" ++ "errors.errorString" = "*errors.errorString" := by decide
theorem rowErr (u : TypeId) (h : Tryz.prog.typeName? 3 u = some "*errors.errorString") : u = 165 :=
  typeName_ptr_named (nm := "errors.errorString") (by rw [star]; kernel_rfl) (by kernel_rfl) (by decide) u (by rw [star]; exact h)
theorem LineParses.tabsOk {W : World} (h : laidMetH Tryz.prog LineParses.laid W) : TabsOk Tryz.prog [] W := by
  rw [MakeChecks.laidMetH_plain _ _ _ (by kernel_rfl)] at h
  intro p hp g hg
  simp only [tabs, List.mem_cons, List.not_mem_nil, or_false] at hp
  have inW : ∀ {n : String} {q : Array Value}, Tryz.prog.globalNamed n = some g → W.var? Tryz.prog n = some q → g < W.heap.size := by
    intro n q hn hv
    unfold World.var? at hv
    rw [hn] at hv
    simp only [Option.bind_some] at hv
    split at hv
    · rename_i hh; exact heap_lt hh
    · cases hv
  rcases hp with rfl | rfl | rfl
  · have ht : Lib.TabIs Tryz.prog W "internal/strconv.uint64pow10" .u64 Lib.pow10Tab := Lib.tabIs_of_head (g := 1) (t := 140) (n := 20) (e := 113) (by kernel_rfl) (by kernel_rfl) (by kernel_rfl) (by kernel_rfl) (by kernel_rfl) (by kernel_rfl) (laidMet.tail (laidMet.tail h))
    refine ⟨⟨_, ht, rfl⟩, ?_, fun id c hc => by simp at hc⟩
    have h1 := ht.cell hg 0 (by decide)
    exact cell_lt h1
  · obtain ⟨a, s, h1, _⟩ := laid_sentinel (g := 4) (ti := 109) (tp := 165) (te := 167) (ts := 9) (laidMet.tail (laidMet.tail (laidMet.tail (laidMet.tail (laidMet.tail h))))) (by kernel_rfl) (by kernel_rfl) Tryz.underlying109 rowErr Tryz.underlying165 Tryz.underlying167 rfl rfl Tryz.underlying9 (by kernel_rfl) (by kernel_rfl)
    exact ⟨⟨_, h1, _, rfl, .inr ⟨_, _, rfl⟩⟩, inW hg h1, fun id c hc => by simp at hc⟩
  · obtain ⟨a, s, h1, _⟩ := laid_sentinel (g := 5) (ti := 109) (tp := 165) (te := 167) (ts := 9) (laidMet.tail (laidMet.tail (laidMet.tail (laidMet.tail h)))) (by kernel_rfl) (by kernel_rfl) Tryz.underlying109 rowErr Tryz.underlying165 Tryz.underlying167 rfl rfl Tryz.underlying9 (by kernel_rfl) (by kernel_rfl)
    exact ⟨⟨_, h1, _, rfl, .inr ⟨_, _, rfl⟩⟩, inW hg h1, fun id c hc => by simp at hc⟩

theorem LineParses.lifted (os : Os) (started : os.Started) (H : Type) (enc : TypeId × Value → H) :
    ReturnsInHanded {} Tryz.checked os 7 .any (fun w args => (Rows.lineParsesSpec.pre enc Tryz.prog Tryz.f7 [] false w args ∧ laidMetH Tryz.prog LineParses.laid w) ∧ sizedMet enc Tryz.prog Tryz.f7 (OpenSpec.ofChange Rows.lineParsesSpec) false w args)
      (Rows.lineParsesSpec.post enc Tryz.prog Tryz.f7 false true false false) := by
  refine returnsInHanded_of_change_and (C := Tryz.checked) (X := fun w _ => laidMetH Tryz.prog LineParses.laid w) (fun _ _ _ hh h => h.of_heap hh) LineParses.ownK started (by kernel_rfl) Tryz.func7
    (ChangeSpec.witness_shaped (enc := enc) (C := Tryz.checked) (os := os) (X := fun w _ => laidMetH Tryz.prog LineParses.laid w) false (LineW os) #[.string .empty] 8 rfl (World.shaped_of_RefB (by kernel_rfl) (by kernel_rfl)) (by kernel_rfl) (by kernel_rfl) (by kernel_rfl) (LineParses.door os _)) ?_
  intro W base args ds gs before hval hW hcnd _ hL _
  exact Go.Den.law_contract (tb := 4) LineParses.shapes mixed named prims LineParses.laidOut (by kernel_rfl) (by kernel_rfl) (by kernel_rfl) rfl
    (fun ds hd => by
      match ds, hd with
      | [_], _ => rfl) parses_law W (LineParses.tabsOk hL) base args ds gs before hval hW hcnd

theorem LineParses.said : Rows.LineParsesSaid :=
  OpenClaim.holds_of_wide 7 Tryz.f7 rfl rfl rfl rfl rfl rfl rfl ⟨rfl, rfl, rfl, rfl, rfl⟩ rfl rfl rfl rfl rfl (by kernel_rfl) Tryz.func7 (by kernel_rfl)
    (of_decide_eq_true (by kernel_rfl)) (by unfold Func.isWrapper; first | (rw [if_pos (by decide +kernel)]; kernel_rfl) | (rw [if_neg (by decide +kernel)]; exact ⟨rfl, rfl⟩))
    (fun os started H enc _ => LineParses.lifted os started H enc)

theorem lineParses_card : Rows.LineParsesCardSaid :=
  Claim7.holds_tied_plain_at .later [] [.data, .data, .data, .data, .sentinel, .sentinel, .pinned] true (true, "38537c0807cfd2b9090b725ca0906698063c5a231063f4495fad5c0513b17f95") true
    LineParses.said (fun _ h => by cases h) (by kernel_rfl) (fun _ h => by cases h) lineParses_row_tie rfl ⟨rfl, rfl⟩ (by kernel_rfl) rfl
    (fun f fn hf hfn => by
      obtain rfl : f = 7 := Option.some.inj ((show Tryz.prog.funcNamed "broker/brokerlaw08.LineParses" = some 7 by kernel_rfl).symm.trans hf) |>.symm
      obtain rfl : fn = Tryz.f7 := (Option.some.inj (Tryz.func7.symm.trans hfn)).symm
      exact ⟨by kernel_rfl, fun j t ht => by
        have hp : Tryz.f7.params = #[9] := by kernel_rfl
        rw [hp] at ht
        have h3 : t = 9 := by
          match j, ht with
          | 0, ht => exact (by simpa using ht.symm)
          | n + 1, ht => simp at ht
        skip
        all_goals (subst h3; exact (show Tryz.prog.wantsStandIn _ = false by kernel_rfl))⟩)
    (by kernel_rfl)

end Go.Proofs.YtmocefjnplmibaaGreatDoor
