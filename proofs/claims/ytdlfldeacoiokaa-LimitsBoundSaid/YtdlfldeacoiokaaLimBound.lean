/- For every bucket, instant and list of operations: the law LimitsBound returns true. Its arguments read as they did. No condition. -/
import Derived.Test.YtdlfldeacoiokaaRows
import Derived.Test.YtdlfldeacoiokaaBound
namespace Go.Proofs.Ytdlfldeacoiokaa
open Go Go.Den Go.ChangeShapes Go.WideShapes Go.ChangeAt Go.RowKit

theorem flat38 : flat Try.prog depth 38 = some [38] := by kernel_rfl
theorem under38 : Try.prog.underlying 38 = some (.slice 42) := by kernel_rfl
theorem flat42 : flat Try.prog depth 42 = some [40, 3] := by kernel_rfl
theorem under40 : Try.prog.underlying 40 = some (.int .u16) := by kernel_rfl
theorem agg42 : isAggB Try.prog 42 = true := by kernel_rfl

theorem ops_inv {es : List E} (h : ParamTy Try.prog 38 es) : ∃ ops : List E, es = [.sl 42 ops] ∧ Ops ops := by
  have h := h.inv flat38
  obtain ⟨x0, _, rfl, h0, h⟩ := h.cons_inv
  cases h.nil_inv
  obtain ⟨ys, fs, rfl, _, hf, h1, h2⟩ := h0.sl_inv under38
  rw [flat42] at hf
  injection hf with hf
  subst hf
  refine ⟨ys, rfl, fun i hi => ?_⟩
  have hy : ys[i]? = some ys[i] := List.getElem?_eq_getElem hi
  have hg : ys.getD i E.nili = ys[i] := by simp [List.getD_eq_getElem?_getD, hi]
  rw [hg]
  generalize ys[i] = y at hy
  obtain ⟨k1, k2, _⟩ := h1 i y hy
  have hy2 := k2 agg42
  generalize y.cells = cs at k1 hy2
  subst hy2
  match cs, k1 with
  | [c0, c1], _ =>
    obtain ⟨n, rfl, hw⟩ := (h2 i _ 0 40 c0 hy rfl rfl).int_inv under40
    have hw' : 0 ≤ n ∧ n ≤ 65535 := by
      simpa [Lit.wf, IntKind.min, IntKind.max, IntKind.signed, IntKind.bits] using hw
    exact hw'

theorem arg38 (ops : List E) : argOf Try.prog 38 [.sl 42 ops] = .e (.sl 42 ops) := by kernel_rfl

theorem bound_law : LawRuns Try.prog HH 8 [23, 3, 38] := by
  refine lawRuns_of fun ess he => ?_
  obtain ⟨e0, _, rfl, h0, he⟩ := he.cons_inv
  obtain ⟨e1, _, rfl, h1, he⟩ := he.cons_inv
  obtain ⟨e2, _, rfl, h2, he⟩ := he.cons_inv
  cases he.nil_inv
  obtain ⟨r, b, l, t, rfl⟩ := bucket_inv h0
  obtain ⟨m, rfl, _⟩ := num_inv h1
  obtain ⟨ops, rfl, ho⟩ := ops_inv h2
  simp only [List.zipWith_cons_cons, List.zipWith_nil_left, arg23, arg3, arg38]
  exact bound_run ho r b l t m

theorem Try.own : ownKnob Try.prog.godebug = none := by kernel_rfl
theorem Try.laidOut : laidOutB Try.prog = true := by kernel_rfl
theorem shapes : shapesB Try.prog [23, 3, 38, 42, 40] = true := by kernel_rfl
theorem noTabs (w : World) : TabsOk Try.prog [] w := by
  intro p hp g hg
  simp only [tabs, List.mem_singleton] at hp
  subst hp
  have h : Try.prog.globalNamed "internal/strconv.uint64pow10" = none := by kernel_rfl
  rw [h] at hg
  cases hg

set_option maxRecDepth 100000 in
theorem limitsBound_lifted (os : Os) (started : os.Started) (H : Type) (enc : TypeId × Value → H) :
    ReturnsInHanded {} Try.checked os 8 .any (Rows.limitsBoundSpec.pre6 enc Try.prog Try.f8 Rows.limitsBoundRow.domain false) (Rows.limitsBoundSpec.post enc Try.prog Try.f8 false true false false) := by
  refine returnsInHanded_of_change (C := Try.checked) Try.own started (by kernel_rfl) Try.func8
    (ChangeSpec.witness6 (enc := enc) (C := Try.checked) false ⟨#[], #[.agg #[.int .i64 0, .int .i64 0, .int .i64 0, .int .i64 0], .int .i64 0, .slice none 0 0], []⟩ 8 (by kernel_rfl) (by kernel_rfl) (by kernel_rfl) (by kernel_rfl)) ?_
  intro W base args ds gs before hval hW hcnd _
  exact Go.Den.law_contract (tb := 4) shapes mixed named prims Try.laidOut (by kernel_rfl) (by kernel_rfl) (by kernel_rfl) rfl
    (fun ds hd => by
      match ds, hd with
      | [_, _, _], _ => rfl) (bound_law) W (noTabs W) base args ds gs before hval hW hcnd

theorem limitsBound_holds : Rows.LimitsBoundSaid :=
  OpenClaim.holds_of_wide 8 Try.f8 rfl rfl rfl rfl rfl rfl rfl ⟨rfl, rfl, rfl, rfl, rfl⟩ rfl rfl rfl rfl rfl (by kernel_rfl) Try.func8 (by kernel_rfl)
    (of_decide_eq_true (by kernel_rfl)) (by unfold Func.isWrapper; first | (rw [if_pos (by decide +kernel)]; kernel_rfl) | (rw [if_neg (by decide +kernel)]; exact ⟨rfl, rfl⟩))
    (fun os started H enc _ => limitsBound_lifted os started H enc)

end Go.Proofs.Ytdlfldeacoiokaa
