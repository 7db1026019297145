/- The contracts of the library's functions that the seat's functions call. -/
import Derived.Test.YtapndkailgcboaaGreatDoorShelf
import Derived.Test.YtapndkailgcboaaGreatDoorDn7
namespace Go.Proofs
open Go Go.Den Go.Shelf Go.RowKit
set_option maxRecDepth 100000

set_option maxHeartbeats 2000000 in
theorem Tryz.string_some (b g cap : Nat) (p : Value) (cur : Array Value) (l : List UInt8) (w : World) (hbk : w.heap[b]? = some (.cells #[p, .slice (some ⟨g, 0, none⟩) l.length cap] 141 (0, 0))) (hg : w.heap[g]? = some (.cells cur 5 (0, 0)))
    (h0 : l ≠ []) (hnc : l.length ≤ cap) (hcm : cap ≤ cur.size) (hmax : l.length ≤ 9223372036854775807) (hcells : ∀ (j : Nat) x, l[j]? = some x → w.cell? ⟨g, j, none⟩ = some (.int .u8 x.toNat)) :
    Calls Tryz.prog 133 #[.pointer (some ⟨b, 0, none⟩)] w fun e w' => e = .returned (.string ⟨l.toArray⟩) ∧ w' = w.drew.freeze ⟨g, 0, none⟩ l.length := by
  have L := Tryz.lays169
  have X := Tryz.Builder_Extra_169
  have hl0 : l.length ≠ 0 := by simpa using h0
  have c1 : w.drew.cell? ⟨b, 1, none⟩ = some (.slice (some ⟨g, 0, none⟩) l.length cap) := by
    have : w.drew.heap[b]? = some (.cells #[p, .slice (some ⟨g, 0, none⟩) l.length cap] 141 (0, 0)) := hbk
    rw [Lib.cell_of_heap this]; rfl
  have hSD : (Builtin.unsafeSliceData_ #[134] 150 #[.slice (some ⟨g, 0, none⟩) l.length cap]).run Tryz.prog w.drew = .ok (.pointer (some ⟨g, 0, none⟩)) w.drew :=
    Lib.run_unsafeSliceData_row _ _ _ _ _ _ (by omega)
  have hUS : (Builtin.unsafeString_ #[150, 3] 9 #[.pointer (some ⟨g, 0, none⟩), .int .i64 l.length]).run Tryz.prog w.drew = .ok (.string ⟨l.toArray⟩) (w.drew.freeze ⟨g, 0, none⟩ l.length) := by
    refine Lib.run_unsafeString_row w.drew 150 3 9 5 L.t127 X.cellsByte g cur.size (by have hg' : w.drew.heap[g]? = some (.cells cur 5 (0, 0)) := hg; simp [World.shape?, hg']) l h0 (by omega) hmax ?_
    intro j x hx
    rw [add_at, Nat.zero_add]
    exact hcells j x hx
  have mixed := L.mixed
  have t72 := L.t72; have a72 := L.a72; have z72 := L.z72; have v72 := L.v72; have u72 := run_underlying L.t72
  have t70 := L.t70; have a70 := L.a70; have z70 := L.z70; have v70 := L.v70; have u70 := run_underlying L.t70
  have t37 := L.t37; have a37 := L.a37; have z37 := L.z37; have v37 := L.v37; have u37 := run_underlying L.t37
  have t127 := L.t127; have a127 := L.a127; have z127 := L.z127; have v127 := L.v127; have u127 := run_underlying L.t127
  have t3 := L.t3; have a3 := L.a3; have z3 := L.z3; have v3 := L.v3; have u3 := run_underlying L.t3
  have t9 := L.t9; have a9 := L.a9; have z9 := L.z9; have v9 := L.v9; have u9 := run_underlying L.t9
  have t5 := X.t5; have a5 := X.a5; have z5 := X.z5; have v5 := X.v5; have u5 := run_underlying X.t5
  go_enter Tryz.func133, Tryz.ntmps133
  go_wp2
  go_region_o
  all_goals (go_wp2; go_ret; exact ⟨rfl, rfl⟩)

theorem Tryz.string_prim : PrimFor Tryz.prog 133 (stringG 141 5) := by
  refine prim_string ⟨_, Tryz.func133, by kernel_rfl, by kernel_rfl⟩ (by kernel_rfl) ?_ ?_ ?_
  · intro b g cap p cur l w h1 h2 h3 h4 h5 h6 h7
    exact Tryz.string_some b g cap p cur l w h1 h2 h3 h4 h5 h6 h7
  · intro b p w h
    exact Any.Builder_String_nil Tryz.lays169 Tryz.Builder_Extra_169 w.heap.size b p w h
  · intro b g cap p cur w h1 h2
    by_cases hc : cap = 0
    · subst hc
      exact Any.Builder_String_noroom Tryz.lays169 Tryz.Builder_Extra_169 w.heap.size b g p cur w (Nat.le_refl _) h1 h2
    · exact Any.Builder_String_room Tryz.lays169 Tryz.Builder_Extra_169 w.heap.size b g cap p w hc h1

theorem Tryz.itoa_prim : PrimFor Tryz.prog 102 itoaG :=
  prim_itoa ⟨_, Tryz.func102, by kernel_rfl, by kernel_rfl⟩ (by kernel_rfl) fun n h0 h1 w ht => Tryz.strconv_Itoa n h0 h1 w ht

set_option maxHeartbeats 2000000 in
theorem Tryz.copy_used (b : Nat) (w : World) (h0 : w.cell? ⟨b, 0, none⟩ = some (.pointer (some ⟨b, 0, none⟩))) :
    Calls Tryz.prog 143 #[.pointer (some ⟨b, 0, none⟩)] w fun e w' => e = .returned (.tuple #[]) ∧ w' = w := by
  obtain ⟨j, hj, _⟩ := Option.map_eq_some_iff.1 (show (Tryz.prog.info? 141).map (·.size) = some 2 by kernel_rfl)
  go_enter Tryz.func143, Tryz.ntmps143
  go_wp2
  rw [Lib.run_neq_ptr_same w _ Tryz.underlying139 hj]
  go_wp2
  go_end0
  exact ⟨rfl, rfl⟩

set_option maxHeartbeats 2000000 in
theorem Tryz.copy_fresh (b : Nat) (w : World) (h0 : w.cell? ⟨b, 0, none⟩ = some (.pointer none)) (hsh : w.shape? b = some (141, 2)) (hfz : w.frozen? ⟨b, 0, none⟩ = false) :
    Calls Tryz.prog 143 #[.pointer (some ⟨b, 0, none⟩)] w fun e w' => e = .returned (.tuple #[]) ∧ w' = w.setCell ⟨b, 0, none⟩ (.pointer (some ⟨b, 0, none⟩)) := by
  obtain ⟨j, hj, hjs⟩ := Option.map_eq_some_iff.1 (show (Tryz.prog.info? 141).map (·.size) = some 2 by kernel_rfl)
  have hlies : liesAt Tryz.prog Tryz.prog.depth 141 (2 / Tryz.prog.cellsOf 141) 0 141 1 = true := by kernel_rfl
  go_enter Tryz.func143, Tryz.ntmps143
  go_wp2
  rw [Lib.run_to_unsafe w ⟨b, 0, none⟩ Tryz.underlying139 Tryz.underlying164 hj (by rw [hjs]; decide) hsh (Nat.zero_lt_succ 1)]
  simp only [Result.andThen]
  rw [Oper.upon_value]
  go_wp2
  rw [run_callFunc_extern Tryz.func152 (by kernel_rfl) (by kernel_rfl) (by kernel_rfl) (e := Extern.AbiNoEscape.same) (by kernel_rfl)]
  rw [Lib.run_noEscape]
  simp only [Result.andThen]
  rw [Oper.upon_value]
  go_wp2
  rw [Lib.run_from_unsafe w ⟨b, 0, none⟩ Tryz.underlying164 Tryz.underlying139 hj hsh hlies]
  simp only [Result.andThen]
  rw [Oper.upon_value]
  go_wp2
  go_end0
  exact ⟨rfl, rfl⟩

theorem Tryz.copy_prim : PrimFor Tryz.prog 143 (copyG 141) :=
  prim_copy ⟨_, Tryz.func143, by kernel_rfl, by kernel_rfl⟩ (fun b w h1 h2 h3 => Tryz.copy_fresh b w h1 h2 h3) fun b w h => Tryz.copy_used b w h

set_option maxHeartbeats 2000000 in
theorem Tryz.split_calls (s : List UInt8) (c : UInt8) (hs : s.length < 4294967281) (w : World) :
    Calls Tryz.prog 89 #[.string ⟨s.toArray⟩, .string ⟨#[c]⟩] w fun e w' =>
      e = .returned (.slice (some ⟨w.heap.size, 0, none⟩) (splitAt c s).length (splitAt c s).length) ∧ w' = w.alloc (.cells ((splitAt c s).map fun x => Value.string ⟨x.toArray⟩).toArray 9) := by
  have L := Tryz.lays146
  have h1 : 1 ≤ (⟨#[c]⟩ : ByteArray).size := Nat.le_refl 1
  have hs' : (⟨s.toArray⟩ : ByteArray).size < 4294967281 := by show s.toArray.size < _; simpa using hs
  have hle := Lib.countB_le ⟨#[c]⟩ h1 (⟨s.toArray⟩ : ByteArray).size ⟨s.toArray⟩ (Nat.le_refl _)
  have hlen := Lib.splitB_all ⟨#[c]⟩ h1 0 _ ⟨s.toArray⟩ rfl
  have hI : ∀ (x : ByteArray) (w : World), Calls Tryz.prog 115 #[.string x, .string ⟨#[c]⟩] w fun e w' => e = .returned (.int .i64 (Lib.indexB x ⟨#[c]⟩)) ∧ w' = w := fun x w => by
    have := Tryz.strings_Index_one x c w
    rw [show Lib.indexB x ⟨#[c]⟩ = Lib.indexByte x.data.toList c from Lib.index_one _ _]
    exact this
  have hC : Calls Tryz.prog 114 #[.string ⟨s.toArray⟩, .string ⟨#[c]⟩] w fun e w' => e = .returned (.int .i64 (Lib.countB ⟨s.toArray⟩ ⟨#[c]⟩)) ∧ w' = w := by
    have := Tryz.strings_Count_one ⟨s.toArray⟩ c w
    rw [show Lib.countB ⟨s.toArray⟩ ⟨#[c]⟩ = Lib.countByte s c from count_one c s]
    exact this
  have g := Any.strings_genSplit_core Tryz.lays221 (by kernel_rfl) ⟨s.toArray⟩ ⟨#[c]⟩ 0 (-1) (Lib.countB ⟨s.toArray⟩ ⟨#[c]⟩ + 1) w hs' h1 (Nat.zero_le _) (fun x d _ => hI x _) hC (by decide) (by decide) (by rw [if_pos (by decide)]; omega)
  rw [Nat.add_sub_cancel, hlen] at g
  have e2 : Lib.cellsOf (Lib.splitB ⟨#[c]⟩ 0 (Lib.countB ⟨s.toArray⟩ ⟨#[c]⟩) ⟨s.toArray⟩) (Lib.countB ⟨s.toArray⟩ ⟨#[c]⟩ + 1) = ((Lib.splitB ⟨#[c]⟩ 0 (Lib.countB ⟨s.toArray⟩ ⟨#[c]⟩) ⟨s.toArray⟩).map Value.string).toArray := by rw [← hlen]; exact Lib.cellsOf_full _
  rw [e2] at g
  have e3 : Lib.countB ⟨s.toArray⟩ ⟨#[c]⟩ + 1 = (splitAt c s).length := by rw [← hlen, splitB_one, List.length_map]
  rw [e3, splitB_one, List.map_map] at g
  have mixed := L.mixed
  have t3 := L.t3; have t9 := L.t9; have t31 := L.t31
  have a3 := L.a3; have a9 := L.a9; have a31 := L.a31
  have z3 := L.z3; have v3 := L.v3; have z9 := L.z9; have v9 := L.v9; have z31 := L.z31; have v31 := L.v31
  have e221 : ∀ args w, (callFunc 98 args).run Tryz.prog w = .ok (.enter 98 args) w := enters_of L.f221 (by kernel_rfl) rfl
  go_enter Tryz.func89, Tryz.ntmps89
  go_wp2_with (go_at_fn 98; refine g.mono ?_; rintro e w' ⟨rfl, hw⟩; rw [hw])
  go_ret
  exact ⟨rfl, rfl⟩

theorem Tryz.index_prim : PrimFor Tryz.prog 144 indexG :=
  prim_index ⟨_, Tryz.func144, by kernel_rfl, by kernel_rfl⟩ fun s c w => Tryz.strings_IndexByte s c w

theorem Tryz.split_prim : PrimFor Tryz.prog 89 (splitG 9) :=
  prim_split ⟨_, Tryz.func89, by kernel_rfl, by kernel_rfl⟩ (by kernel_rfl) Tryz.underlying9 fun s c hs w => Tryz.split_calls s c hs w

theorem Tryz.clone_prim : PrimFor Tryz.prog 71 (cloneG 9 16) := by
  obtain ⟨i0, hi, hz⟩ := Option.map_eq_some_iff.1 (show (Tryz.prog.info? 9).map (fun i => (i.zero, i.size, i.bytes)) = some (some (.string ⟨#[]⟩), 1, 16) by kernel_rfl)
  have e1 : i0.zero = some (.string ⟨#[]⟩) := congrArg (·.1) hz
  have e2 : i0.size = 1 := congrArg (·.2.1) hz
  have e3 : i0.bytes = 16 := congrArg (·.2.2) hz
  refine prim_clone (fs := [9]) ⟨_, Tryz.func71, by kernel_rfl, by kernel_rfl⟩ (by kernel_rfl) (by decide) (by decide) ?_ ?_ ?_
  · intro b off n c news w h1 h2 h3 h4 h5
    refine (Tryz.slices_Clone i0 (.string ⟨#[]⟩) 1 16 hi e1 e2 e3 rfl (by decide) (fun w => Tryz.sizeOf9 w) b off n c news w h1 h2 h3 h4 h5).mono ?_
    rintro e w' ⟨v', q1, q2, _, q3⟩
    exact ⟨v', q1, q2, q3⟩
  · intro a c w
    refine (Tryz.slices_Clone_string_zero a c w).mono ?_
    rintro e w' ⟨v', q1, q2, _, q3⟩
    exact ⟨v', q1, q2, q3⟩
  · intro n c w
    exact Tryz.slices_Clone_nil n c w

end Go.Proofs
