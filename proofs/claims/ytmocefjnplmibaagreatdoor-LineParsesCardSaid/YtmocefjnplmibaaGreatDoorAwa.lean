/- The closed run of Awa. -/
import Derived.Test.YtmocefjnplmibaaGreatDoorLib
import Derived.Test.YtmocefjnplmibaaGreatDoorDn5
import Derived.KernelRfl
namespace Go.Proofs.YtmocefjnplmibaaGreatDoor.Awa
open Go Go.Den
set_option maxRecDepth 100000
set_option maxHeartbeats 0

def liveX (f i : Nat) : List Nat :=
  match f, i with
  | 4, 7 => [0, 3, 4]
  | 12, 6 => [0, 4, 5, 6]
  | 13, 3 => [0, 4, 5]
  | 14, 3 => [0, 3, 4]
  | 15, 3 => [0, 3, 4]
  | 17, 4 => [1, 18, 19, 20]
  | 22, 4 => [2, 4, 5, 6]
  | 29, 2 => [0, 3]
  | 31, 4 => [0, 3]
  | 45, 3 => [3, 6, 7, 8]
  | 47, 22 => [1, 8, 63, 64, 65]
  | 47, 12 => [0, 1, 5, 39, 40, 41]
  | 52, 3 => [0, 3, 4]
  | 54, 3 => [0, 3, 4]
  | 57, 2 => [0, 3]
  | 62, 4 => [0, 3, 4, 5]
  | 69, 4 => [0, 1, 5]
  | 73, 4 => [15]
  | 75, 4 => [0, 8, 9, 10]
  | 78, 4 => [3, 43, 44, 45]
  | 79, 4 => [3, 71, 72, 73]
  | 80, 4 => [0, 3]
  | 91, 11 => [0, 1, 2, 3, 9, 10]
  | 93, 3 => [2, 3, 4]
  | 97, 2 => [0, 3]
  | 99, 15 => [0, 4, 6, 7]
  | 99, 7 => [0, 4, 5]
  | 101, 3 => [0, 3, 4]
  | 105, 5 => [0, 3, 4, 5]
  | 105, 2 => [0, 3]
  | 108, 4 => [0, 3]
  | 109, 4 => [9]
  | 113, 4 => [0, 3]
  | 114, 2 => [0, 1, 5]
  | 119, 6 => [0, 1, 6, 7]
  | 120, 6 => [0, 1, 5]
  | 122, 5 => [3, 4]
  | 127, 5 => [3, 15]
  | 128, 4 => [0, 3]
  | 132, 1 => [0, 1, 4]
  | 133, 11 => [0, 1, 3, 4, 10, 11, 12, 13, 14, 15, 16]
  | 133, 18 => [0, 1, 3, 4, 10, 11, 12, 13, 17]
  | 136, 2 => [2, 4]
  | 139, 15 => [0, 1, 5, 6, 7, 8, 9, 10]
  | 141, 10 => [5, 6, 47, 48, 49]
  | 144, 4 => [0, 3, 4, 5]
  | 153, 11 => [0, 1, 5, 6, 7, 8, 10]
  | 153, 5 => [0, 1, 5, 6, 7, 8, 9]
  | 162, 8 => [4, 6, 7, 8]
  | 162, 3 => [0, 4, 5]
  | 164, 36 => [1, 8, 9, 10, 11, 12, 13, 99, 100, 101]
  | 168, 10 => [0, 3, 4, 5]
  | _, _ => []
def primX (md : Den.Mode) (f : FuncId) : Option (List AV → Heap → T) :=
  match md with
  | some _ => none
  | none =>
    match f with
    | 89 => some (stringG 106 5)
    | 47 => some joinG
    | 41 => some itoaG
    | 117 => some (copyG 106)
    | 70 => some indexG
    | 56 => some (splitG 9)
    | 123 => some atoiG
    | _ => none
def HX : Hints := { prim := primX, live := liveX, pans := fun _ => true, outs := fun _ _ => [], post := fun _ => none, exact := true }

theorem run0 : runK Go.Proofs.Tryz.prog HX 90 none 12 [.e (.str [34, 97, 92, 34, 98, 92, 115, 92, 120, 48, 97, 34])] [] = some (.ret (.tup [.e (.str [97, 34, 98, 32, 10]), .e (.int .i64 0)]), []) := by kernel_rfl
theorem run1 : runK Go.Proofs.Tryz.prog HX 90 none 19 [.agg [.e (.int .i64 2), .e (.int .i64 1), .e (.int .i64 2), .e (.int .i64 0), .e (.int .i64 0), .e (.bool false), .e (.str []), .e (.str []), .e (.str []), .e (.int .i64 0), .e (.str []), .e (.str [113]), .e (.int .i64 10), .e (.int .i64 0), .e (.int .i64 3), .e (.str []), .e (.str []), .e (.str []), .e (.str []), .e (.bool false), .e (.sl 97 []), .e (.str []), .e (.str []), .e (.int .i64 0), .e (.bool false), .e (.int .i64 0), .e (.int .i64 0), .e (.str []), .e (.int .i64 0), .e (.sl 97 [])]] [] = some (.ret (.tup [.e (.str [113, 117, 101, 117, 101, 32, 49, 32, 50, 32, 113, 32, 49, 48, 32, 48, 32, 51, 32, 45]), .e (.int .i64 0)]), []) := by kernel_rfl
theorem run2 : runK Go.Proofs.Tryz.prog HX 90 none 21 [.e (.str [97, 99, 107, 32, 49, 32, 50, 32, 51, 32, 121, 101, 115])] [] = some (.ret (.tup [.agg [.e (.int .i64 8), .e (.int .i64 1), .e (.int .i64 2), .e (.int .i64 3), .e (.int .i64 0), .e (.bool true), .e (.str []), .e (.str []), .e (.str []), .e (.int .i64 0), .e (.str []), .e (.str []), .e (.int .i64 0), .e (.int .i64 0), .e (.int .i64 0), .e (.str []), .e (.str []), .e (.str []), .e (.str []), .e (.bool false), .e (.sl 97 []), .e (.str []), .e (.str []), .e (.int .i64 0), .e (.bool false), .e (.int .i64 0), .e (.int .i64 0), .e (.str []), .e (.int .i64 0), .e (.sl 97 [])], .e (.int .i64 0)]), []) := by kernel_rfl
theorem run3 : runK Go.Proofs.Tryz.prog HX 90 none 14 [.e (.str [97, 34, 98, 32, 10])] [] = some (.ret (.e (.str [34, 97, 92, 34, 98, 92, 115, 92, 120, 48, 97, 34])), []) := by kernel_rfl
theorem run4 : runK Go.Proofs.Tryz.prog HX 90 none 23 [.agg [.e (.int .i64 8), .e (.int .i64 1), .e (.int .i64 2), .e (.int .i64 3), .e (.int .i64 0), .e (.bool true), .e (.str []), .e (.str []), .e (.str []), .e (.int .i64 0), .e (.str []), .e (.str []), .e (.int .i64 0), .e (.int .i64 0), .e (.int .i64 0), .e (.str []), .e (.str []), .e (.str []), .e (.str []), .e (.bool false), .e (.sl 97 []), .e (.str []), .e (.str []), .e (.int .i64 0), .e (.bool false), .e (.int .i64 0), .e (.int .i64 0), .e (.str []), .e (.int .i64 0), .e (.sl 97 [])], .agg [.e (.int .i64 8), .e (.int .i64 1), .e (.int .i64 2), .e (.int .i64 3), .e (.int .i64 0), .e (.bool true), .e (.str []), .e (.str []), .e (.str []), .e (.int .i64 0), .e (.str []), .e (.str []), .e (.int .i64 0), .e (.int .i64 0), .e (.int .i64 0), .e (.str []), .e (.str []), .e (.str []), .e (.str []), .e (.bool false), .e (.sl 97 []), .e (.str []), .e (.str []), .e (.int .i64 0), .e (.bool false), .e (.int .i64 0), .e (.int .i64 0), .e (.str []), .e (.int .i64 0), .e (.sl 97 [])]] [] = some (.ret (.e (.bool true)), []) := by kernel_rfl
theorem run5 : runK Go.Proofs.Tryz.prog HX 90 none 17 [.agg [.e (.int .i64 8), .e (.int .i64 1), .e (.int .i64 2), .e (.int .i64 3), .e (.int .i64 0), .e (.bool true), .e (.str []), .e (.str []), .e (.str []), .e (.int .i64 0), .e (.str []), .e (.str []), .e (.int .i64 0), .e (.int .i64 0), .e (.int .i64 0), .e (.str []), .e (.str []), .e (.str []), .e (.str []), .e (.bool false), .e (.sl 97 []), .e (.str []), .e (.str []), .e (.int .i64 0), .e (.bool false), .e (.int .i64 0), .e (.int .i64 0), .e (.str []), .e (.int .i64 0), .e (.sl 97 [])]] [] = some (.ret (.e (.int .i64 0)), []) := by kernel_rfl
theorem run6 : runK Go.Proofs.Tryz.prog HX 90 none 25 [.agg [.e (.int .i64 1), .e (.int .i64 1), .e (.int .i64 2), .e (.int .i64 8), .e (.int .i64 5), .e (.int .i64 0), .e (.int .i64 0), .e (.bool false), .e (.str []), .e (.int .i64 0), .e (.int .i64 0), .e (.int .i64 0), .e (.str []), .e (.str []), .e (.int .i64 0), .e (.bool false), .e (.int .i64 0), .e (.int .i64 0), .e (.str []), .e (.int .i64 0), .e (.sl 97 [])]] [] = some (.ret (.e (.str [100, 111, 110, 101, 32, 49, 32, 50, 32, 56, 32, 53])), []) := by kernel_rfl

def tab : Tab := [
  (12, [.e (.str [34, 97, 92, 34, 98, 92, 115, 92, 120, 48, 97, 34])], .ret (.tup [.e (.str [97, 34, 98, 32, 10]), .e (.int .i64 0)])),
  (19, [.agg [.e (.int .i64 2), .e (.int .i64 1), .e (.int .i64 2), .e (.int .i64 0), .e (.int .i64 0), .e (.bool false), .e (.str []), .e (.str []), .e (.str []), .e (.int .i64 0), .e (.str []), .e (.str [113]), .e (.int .i64 10), .e (.int .i64 0), .e (.int .i64 3), .e (.str []), .e (.str []), .e (.str []), .e (.str []), .e (.bool false), .e (.sl 97 []), .e (.str []), .e (.str []), .e (.int .i64 0), .e (.bool false), .e (.int .i64 0), .e (.int .i64 0), .e (.str []), .e (.int .i64 0), .e (.sl 97 [])]], .ret (.tup [.e (.str [113, 117, 101, 117, 101, 32, 49, 32, 50, 32, 113, 32, 49, 48, 32, 48, 32, 51, 32, 45]), .e (.int .i64 0)])),
  (21, [.e (.str [97, 99, 107, 32, 49, 32, 50, 32, 51, 32, 121, 101, 115])], .ret (.tup [.agg [.e (.int .i64 8), .e (.int .i64 1), .e (.int .i64 2), .e (.int .i64 3), .e (.int .i64 0), .e (.bool true), .e (.str []), .e (.str []), .e (.str []), .e (.int .i64 0), .e (.str []), .e (.str []), .e (.int .i64 0), .e (.int .i64 0), .e (.int .i64 0), .e (.str []), .e (.str []), .e (.str []), .e (.str []), .e (.bool false), .e (.sl 97 []), .e (.str []), .e (.str []), .e (.int .i64 0), .e (.bool false), .e (.int .i64 0), .e (.int .i64 0), .e (.str []), .e (.int .i64 0), .e (.sl 97 [])], .e (.int .i64 0)])),
  (14, [.e (.str [97, 34, 98, 32, 10])], .ret (.e (.str [34, 97, 92, 34, 98, 92, 115, 92, 120, 48, 97, 34]))),
  (23, [.agg [.e (.int .i64 8), .e (.int .i64 1), .e (.int .i64 2), .e (.int .i64 3), .e (.int .i64 0), .e (.bool true), .e (.str []), .e (.str []), .e (.str []), .e (.int .i64 0), .e (.str []), .e (.str []), .e (.int .i64 0), .e (.int .i64 0), .e (.int .i64 0), .e (.str []), .e (.str []), .e (.str []), .e (.str []), .e (.bool false), .e (.sl 97 []), .e (.str []), .e (.str []), .e (.int .i64 0), .e (.bool false), .e (.int .i64 0), .e (.int .i64 0), .e (.str []), .e (.int .i64 0), .e (.sl 97 [])], .agg [.e (.int .i64 8), .e (.int .i64 1), .e (.int .i64 2), .e (.int .i64 3), .e (.int .i64 0), .e (.bool true), .e (.str []), .e (.str []), .e (.str []), .e (.int .i64 0), .e (.str []), .e (.str []), .e (.int .i64 0), .e (.int .i64 0), .e (.int .i64 0), .e (.str []), .e (.str []), .e (.str []), .e (.str []), .e (.bool false), .e (.sl 97 []), .e (.str []), .e (.str []), .e (.int .i64 0), .e (.bool false), .e (.int .i64 0), .e (.int .i64 0), .e (.str []), .e (.int .i64 0), .e (.sl 97 [])]], .ret (.e (.bool true))),
  (17, [.agg [.e (.int .i64 8), .e (.int .i64 1), .e (.int .i64 2), .e (.int .i64 3), .e (.int .i64 0), .e (.bool true), .e (.str []), .e (.str []), .e (.str []), .e (.int .i64 0), .e (.str []), .e (.str []), .e (.int .i64 0), .e (.int .i64 0), .e (.int .i64 0), .e (.str []), .e (.str []), .e (.str []), .e (.str []), .e (.bool false), .e (.sl 97 []), .e (.str []), .e (.str []), .e (.int .i64 0), .e (.bool false), .e (.int .i64 0), .e (.int .i64 0), .e (.str []), .e (.int .i64 0), .e (.sl 97 [])]], .ret (.e (.int .i64 0))),
  (25, [.agg [.e (.int .i64 1), .e (.int .i64 1), .e (.int .i64 2), .e (.int .i64 8), .e (.int .i64 5), .e (.int .i64 0), .e (.int .i64 0), .e (.bool false), .e (.str []), .e (.int .i64 0), .e (.int .i64 0), .e (.int .i64 0), .e (.str []), .e (.str []), .e (.int .i64 0), .e (.bool false), .e (.int .i64 0), .e (.int .i64 0), .e (.str []), .e (.int .i64 0), .e (.sl 97 [])]], .ret (.e (.str [100, 111, 110, 101, 32, 49, 32, 50, 32, 56, 32, 53])))]
theorem tabAll : TabAll Go.Proofs.Tryz.prog HX tab := by
  intro p hp
  simp only [tab, List.mem_cons, List.not_mem_nil, or_false] at hp
  rcases hp with rfl | rfl | rfl | rfl | rfl | rfl | rfl
  · exact ⟨90, run0⟩
  · exact ⟨90, run1⟩
  · exact ⟨90, run2⟩
  · exact ⟨90, run3⟩
  · exact ⟨90, run4⟩
  · exact ⟨90, run5⟩
  · exact ⟨90, run6⟩
def primA (md : Den.Mode) (f : FuncId) : Option (List AV → Heap → T) :=
  match md with
  | some _ => none
  | none => if [12, 14, 17, 19, 21, 23, 25].contains f then some (tabG f tab) else none
def HA : Hints := { prim := primA, live := liveX, pans := fun _ => true, outs := fun _ _ => [], post := fun _ => none, exact := true }
theorem runAwake : runK Go.Proofs.Tryz.prog HA 9 none 11 [] [] = some (.ret (.e (.bool true)), []) := by kernel_rfl

theorem mixed : Go.Proofs.Tryz.prog.follows .mixedOrders = true := by kernel_rfl
theorem named : Named Go.Proofs.Tryz.prog := by
  have h : (Go.Proofs.Tryz.prog.funcs.toList.all fun fn => !(fn.name == "runtime.NumGoroutine")) = true := by kernel_rfl
  intro f fn hf
  have := List.all_eq_true.1 h fn (List.mem_of_getElem? (i := f) (by simpa using hf))
  simpa using this
theorem primsX : PrimOk Go.Proofs.Tryz.prog HX := by
  intro md f g args σ r σ' h hq
  change primX md f = some g at h
  unfold primX at h
  split at h
  · cases h
  · split at h
    · injection h with h; subst h; exact Tryz.string_prim args σ r σ' hq
    · injection h with h; subst h; exact Tryz.join_prim args σ r σ' hq
    · injection h with h; subst h; exact Tryz.itoa_prim args σ r σ' hq
    · injection h with h; subst h; exact Tryz.copy_prim args σ r σ' hq
    · injection h with h; subst h; exact Tryz.index_prim args σ r σ' hq
    · injection h with h; subst h; exact Tryz.split_prim args σ r σ' hq
    · injection h with h; subst h; exact Tryz.atoi_prim args σ r σ' hq
    · cases h
theorem primsA : PrimOk Go.Proofs.Tryz.prog HA := by
  intro md f g args σ r σ' h hq
  change primA md f = some g at h
  unfold primA at h
  split at h
  · cases h
  · split at h
    · injection h with h; subst h
      exact tab_prim mixed named primsX tabAll f args σ r σ' hq
    · cases h

theorem awake_prim : PrimFor Go.Proofs.Tryz.prog 11 trueG := by
  intro args σ r σ' h
  unfold trueG at h
  split at h
  · rw [quick_res] at h
    injection h with h; injection h with h1 h2
    subst h1; subst h2
    exact (runK_ok mixed named primsA 9).1 none 11 [] [] _ [] runAwake
  · cases h
end Go.Proofs.YtmocefjnplmibaaGreatDoor.Awa
