/- Requests as arguments; what is small; LineChecks. -/
import Derived.Test.YtmocefjnplmibaaGreatDoorCf
import Derived.Test.YtmocefjnplmibaaGreatDoorPr
namespace Go.Proofs.YtmocefjnplmibaaGreatDoor
open Go Go.Den
set_option maxRecDepth 100000

/-! ### Small requests -/

def smallP (x : E) : Bool := !(bif decide (400 < ((pK x).length : Int)) == false then decide (400 < ((pV x).length : Int)) else true)
def smallL (l : List E) : Bool := bif decide (12 < (l.length : Int)) then false else l.all smallP
def smallM (m : Msg) : Bool := bif (bif bif decide ((m.topic.length : Int) ≤ 400) then decide ((m.payload.length : Int) ≤ 400) else false then decide ((m.sender.length : Int) ≤ 400) else false) == true then smallL m.props else false
def smallB (b : Bnd) : Bool := bif (bif bif decide ((b.exch.length : Int) ≤ 400) then decide ((b.queue.length : Int) ≤ 400) else false then decide ((b.key.length : Int) ≤ 400) else false) == true then smallL b.mtch else false
def smallR (r : Req) : Bool :=
  bif bif bif bif bif bif decide (400 < (r.name.length : Int)) then true else decide (400 < (r.key.length : Int)) then true else decide (400 < (r.ex.name.length : Int)) then true else decide (400 < (r.ex.alt.length : Int)) then true
    else decide (400 < (r.sp.name.length : Int)) then true else decide (400 < (r.sp.dead.length : Int)) then false
  else bif smallB r.bd then smallM r.msg else false

def spX : Out := { ex := .exit 0, fr := List.replicate 29 AV.undef, hp := [], df := [] }
def spR : Out := { ex := .ret, fr := [AV.undef, AV.undef, yes false] ++ List.replicate 26 AV.undef, hp := [], df := [] }
/-! ### Requests as arguments -/

def IsProp (x : E) : Prop := ∃ k v, x = .agg [.str k, .str v] ∧ k.length ≤ maxLen ∧ v.length ≤ maxLen
def PropsOk (l : List E) : Prop := l.length ≤ maxLen ∧ ∀ x ∈ l, IsProp x
def I64 (n : Int) : Prop := -9223372036854775808 ≤ n ∧ n ≤ 9223372036854775807
structure ReqOk (r : Req) : Prop where
  mtch : PropsOk r.bd.mtch
  props : PropsOk r.msg.props
  texts : ∀ s ∈ [r.name, r.key, r.ex.name, r.ex.alt, r.sp.name, r.sp.dead, r.bd.exch, r.bd.queue, r.bd.key, r.msg.topic, r.msg.payload, r.msg.sender], s.length ≤ maxLen
  nums : ∀ n ∈ [r.kind, r.conn, r.serial, r.tag, r.limit, r.ex.kind, r.sp.max, r.sp.ttl, r.sp.att, r.msg.level, r.msg.prio, r.msg.expires, r.msg.seq], I64 n

theorem und3 : Tryz.prog.underlying 3 = some (.int .i64) := by kernel_rfl
theorem und4 : Tryz.prog.underlying 4 = some .bool := by kernel_rfl
theorem und33 : Tryz.prog.underlying 33 = some (.slice 97) := by kernel_rfl
theorem flat97 : flat Tryz.prog depth 97 = some [9, 9] := by kernel_rfl
theorem agg97 : isAggB Tryz.prog 97 = true := by kernel_rfl
theorem i64_inv {x : E} (h : CellTy Tryz.prog 3 x) : ∃ n, x = .int .i64 n ∧ I64 n := by
  obtain ⟨n, rfl, hw⟩ := h.int_inv und3
  refine ⟨n, rfl, ?_⟩
  show -9223372036854775808 ≤ n ∧ n ≤ 9223372036854775807
  simpa [Lit.wf, IntKind.min, IntKind.max, IntKind.signed, IntKind.bits] using hw
theorem props_inv {x : E} (h : CellTy Tryz.prog 33 x) : ∃ l, x = .sl 97 l ∧ PropsOk l := by
  obtain ⟨ys, fs, rfl, hl, hf, h1, h2⟩ := h.sl_inv und33
  rw [flat97] at hf
  injection hf with hf
  subst hf
  refine ⟨ys, rfl, hl, fun y hy => ?_⟩
  obtain ⟨i, hi⟩ := List.getElem?_of_mem hy
  obtain ⟨k1, k2, _⟩ := h1 i y hi
  have k2 := k2 agg97
  have c0 := h2 i y 0 9
  have c1 := h2 i y 1 9
  generalize y.cells = cs at k1 k2 c0 c1
  match cs, k1 with
  | [a, b], _ =>
    obtain ⟨s, rfl, hs⟩ := (c0 a hi rfl rfl).str_inv und9
    obtain ⟨t, rfl, ht⟩ := (c1 b hi rfl rfl).str_inv und9
    exact ⟨s, t, k2, hs, ht⟩
theorem flatR : flat Tryz.prog depth 39 = some [3, 3, 3, 3, 3, 4, 9, 9, 9, 3, 9, 9, 3, 3, 3, 9, 9, 9, 9, 4, 33, 9, 9, 3, 4, 3, 3, 9, 3, 33] := by kernel_rfl
theorem aggR : isAggB Tryz.prog 39 = true := by kernel_rfl
theorem req_param {es : List E} (h : ParamTy Tryz.prog 39 es) : ∃ r : Req, ReqOk r ∧ argOf Tryz.prog 39 es = reqA r := by
  have h := h.inv flatR
  obtain ⟨x0, _, rfl, h0, h⟩ := h.cons_inv
  obtain ⟨x1, _, rfl, h1, h⟩ := h.cons_inv
  obtain ⟨x2, _, rfl, h2, h⟩ := h.cons_inv
  obtain ⟨x3, _, rfl, h3, h⟩ := h.cons_inv
  obtain ⟨x4, _, rfl, h4, h⟩ := h.cons_inv
  obtain ⟨x5, _, rfl, h5, h⟩ := h.cons_inv
  obtain ⟨x6, _, rfl, h6, h⟩ := h.cons_inv
  obtain ⟨x7, _, rfl, h7, h⟩ := h.cons_inv
  obtain ⟨x8, _, rfl, h8, h⟩ := h.cons_inv
  obtain ⟨x9, _, rfl, h9, h⟩ := h.cons_inv
  obtain ⟨x10, _, rfl, h10, h⟩ := h.cons_inv
  obtain ⟨x11, _, rfl, h11, h⟩ := h.cons_inv
  obtain ⟨x12, _, rfl, h12, h⟩ := h.cons_inv
  obtain ⟨x13, _, rfl, h13, h⟩ := h.cons_inv
  obtain ⟨x14, _, rfl, h14, h⟩ := h.cons_inv
  obtain ⟨x15, _, rfl, h15, h⟩ := h.cons_inv
  obtain ⟨x16, _, rfl, h16, h⟩ := h.cons_inv
  obtain ⟨x17, _, rfl, h17, h⟩ := h.cons_inv
  obtain ⟨x18, _, rfl, h18, h⟩ := h.cons_inv
  obtain ⟨x19, _, rfl, h19, h⟩ := h.cons_inv
  obtain ⟨x20, _, rfl, h20, h⟩ := h.cons_inv
  obtain ⟨x21, _, rfl, h21, h⟩ := h.cons_inv
  obtain ⟨x22, _, rfl, h22, h⟩ := h.cons_inv
  obtain ⟨x23, _, rfl, h23, h⟩ := h.cons_inv
  obtain ⟨x24, _, rfl, h24, h⟩ := h.cons_inv
  obtain ⟨x25, _, rfl, h25, h⟩ := h.cons_inv
  obtain ⟨x26, _, rfl, h26, h⟩ := h.cons_inv
  obtain ⟨x27, _, rfl, h27, h⟩ := h.cons_inv
  obtain ⟨x28, _, rfl, h28, h⟩ := h.cons_inv
  obtain ⟨x29, _, rfl, h29, h⟩ := h.cons_inv
  cases h.nil_inv
  obtain ⟨v0, rfl, k0⟩ := i64_inv h0
  obtain ⟨v1, rfl, k1⟩ := i64_inv h1
  obtain ⟨v2, rfl, k2⟩ := i64_inv h2
  obtain ⟨v3, rfl, k3⟩ := i64_inv h3
  obtain ⟨v4, rfl, k4⟩ := i64_inv h4
  obtain ⟨v5, rfl⟩ := h5.bool_inv und4
  obtain ⟨v6, rfl, k6⟩ := h6.str_inv und9
  obtain ⟨v7, rfl, k7⟩ := h7.str_inv und9
  obtain ⟨v8, rfl, k8⟩ := h8.str_inv und9
  obtain ⟨v9, rfl, k9⟩ := i64_inv h9
  obtain ⟨v10, rfl, k10⟩ := h10.str_inv und9
  obtain ⟨v11, rfl, k11⟩ := h11.str_inv und9
  obtain ⟨v12, rfl, k12⟩ := i64_inv h12
  obtain ⟨v13, rfl, k13⟩ := i64_inv h13
  obtain ⟨v14, rfl, k14⟩ := i64_inv h14
  obtain ⟨v15, rfl, k15⟩ := h15.str_inv und9
  obtain ⟨v16, rfl, k16⟩ := h16.str_inv und9
  obtain ⟨v17, rfl, k17⟩ := h17.str_inv und9
  obtain ⟨v18, rfl, k18⟩ := h18.str_inv und9
  obtain ⟨v19, rfl⟩ := h19.bool_inv und4
  obtain ⟨v20, rfl, k20⟩ := props_inv h20
  obtain ⟨v21, rfl, k21⟩ := h21.str_inv und9
  obtain ⟨v22, rfl, k22⟩ := h22.str_inv und9
  obtain ⟨v23, rfl, k23⟩ := i64_inv h23
  obtain ⟨v24, rfl⟩ := h24.bool_inv und4
  obtain ⟨v25, rfl, k25⟩ := i64_inv h25
  obtain ⟨v26, rfl, k26⟩ := i64_inv h26
  obtain ⟨v27, rfl, k27⟩ := h27.str_inv und9
  obtain ⟨v28, rfl, k28⟩ := i64_inv h28
  obtain ⟨v29, rfl, k29⟩ := props_inv h29
  refine ⟨⟨v0, v1, v2, v3, v4, v5, v6, v7, ⟨v8, v9, v10⟩, ⟨v11, v12, v13, v14, v15⟩, ⟨v16, v17, v18, v19, v20⟩, ⟨v21, v22, v23, v24, v25, v26, v27, v28, v29⟩⟩, ⟨k20, k29, ?_, ?_⟩, ?_⟩
  · intro s hs
    simp only [List.mem_cons, List.not_mem_nil, or_false] at hs
    rcases hs with rfl | rfl | rfl | rfl | rfl | rfl | rfl | rfl | rfl | rfl | rfl | rfl
    · exact k6
    · exact k7
    · exact k8
    · exact k10
    · exact k11
    · exact k15
    · exact k16
    · exact k17
    · exact k18
    · exact k21
    · exact k22
    · exact k27
  · intro s hs
    simp only [List.mem_cons, List.not_mem_nil, or_false] at hs
    rcases hs with rfl | rfl | rfl | rfl | rfl | rfl | rfl | rfl | rfl | rfl | rfl | rfl | rfl
    · exact k0
    · exact k1
    · exact k2
    · exact k3
    · exact k4
    · exact k9
    · exact k12
    · exact k13
    · exact k14
    · exact k23
    · exact k25
    · exact k26
    · exact k28
  · unfold argOf
    rw [aggR]
    rfl

/-! ### LineChecks -/

end Go.Proofs.YtmocefjnplmibaaGreatDoor
