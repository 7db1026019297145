/- The closed run of Awa. -/
import Derived.Test.YtghdhhmlmdohkaaGreatDoorLib
import Derived.Test.YtghdhhmlmdohkaaGreatDoorDn5
import Derived.KernelRfl
namespace Go.Proofs.YtghdhhmlmdohkaaGreatDoor.Awa
open Go Go.Den
set_option maxRecDepth 100000
set_option maxHeartbeats 0

def liveX (f i : Nat) : List Nat :=
  match f, i with
  | 10, 8 => [0, 5, 6, 7, 8]
  | 10, 5 => [0, 5, 6, 7]
  | 11, 3 => [0, 3, 4]
  | 15, 9 => [2, 3, 6]
  | 15, 4 => [2, 3, 5]
  | 23, 7 => [0, 3, 4, 5]
  | 23, 3 => [0, 3, 4]
  | 25, 12 => [0, 4, 12, 13, 14, 37, 38, 39]
  | 25, 4 => [0, 12, 13, 14]
  | 26, 4 => [0, 3]
  | 27, 7 => [1, 2, 6]
  | 27, 3 => [1, 2, 5]
  | 32, 4 => [0, 1, 5]
  | 36, 2 => [0, 1, 4, 6]
  | 37, 4 => [2, 3, 5]
  | 43, 20 => [2, 67, 68, 69]
  | 43, 6 => [2, 34, 35, 36]
  | 49, 4 => [0, 1, 5]
  | 50, 19 => [3, 59, 60, 61]
  | 51, 7 => [1, 2, 6]
  | 51, 3 => [1, 2, 5]
  | 52, 9 => [1, 2, 6]
  | 52, 4 => [1, 2, 5]
  | 55, 2 => [1, 7, 8, 9]
  | 56, 2 => [2, 11, 12, 13]
  | 57, 2 => [2, 3, 6, 7]
  | 62, 4 => [0, 3]
  | 63, 2 => [0, 1, 5]
  | 64, 5 => [3, 4]
  | 66, 4 => [1, 3]
  | 68, 13 => [2, 3, 5]
  | 69, 7 => [3, 5, 6, 13, 14, 15, 20, 21, 22]
  | 69, 3 => [3, 13, 14, 15]
  | 71, 11 => [2, 3, 31, 32, 33]
  | 71, 5 => [1, 2, 3, 15, 16, 17]
  | 72, 2 => [0, 1, 7, 8]
  | 76, 4 => [0, 3, 4, 5]
  | 80, 6 => [1, 5, 19, 20, 21]
  | 81, 13 => [1, 46, 47, 48]
  | 82, 6 => [0, 3, 5, 6, 15, 16, 17]
  | 84, 12 => [1, 5, 33, 34, 35]
  | 84, 6 => [1, 2, 5, 16, 17, 18]
  | 85, 16 => [1, 42, 43, 44]
  | 85, 31 => [1, 83, 84, 85]
  | 86, 9 => [3, 39, 40, 41]
  | 86, 2 => [2, 3, 14, 15, 16]
  | 88, 19 => [0, 4, 5]
  | 91, 1 => [0, 1, 4]
  | 93, 2 => [0, 3, 4]
  | 95, 5 => [0, 2, 4, 6]
  | 96, 22 => [1, 3, 5]
  | 96, 13 => [1, 3, 4]
  | 98, 22 => [1, 8, 63, 64, 65]
  | 98, 12 => [0, 1, 5, 39, 40, 41]
  | 101, 6 => [0, 3]
  | 102, 4 => [0, 1, 5]
  | 106, 14 => [2, 3, 4, 8, 9]
  | 107, 4 => [15]
  | 112, 2 => [0, 1, 5]
  | 113, 2 => [1, 2, 5]
  | 114, 2 => [0, 1, 5]
  | 115, 8 => [0, 1, 7]
  | 115, 2 => [0, 1, 5]
  | 118, 4 => [9]
  | 127, 2 => [0, 1, 9, 10]
  | 130, 2 => [1, 4, 9, 10, 11]
  | 133, 1 => [0, 1, 6, 7]
  | 135, 5 => [0, 3, 4]
  | 138, 5 => [0, 1, 4, 5]
  | 140, 5 => [0, 3]
  | 144, 9 => [0, 3, 4, 5, 6, 7, 8]
  | 145, 3 => [0, 3]
  | 146, 5 => [0, 1, 4, 5]
  | 147, 5 => [0, 1, 4, 5]
  | 149, 3 => [0, 3]
  | 150, 6 => [0, 1, 4, 5]
  | 151, 6 => [0, 1, 4, 5]
  | 153, 10 => [0, 3, 4, 5, 6]
  | 154, 2 => [0, 1, 5]
  | 155, 2 => [0, 2, 4, 8, 9]
  | 156, 5 => [3, 15]
  | 157, 2 => [0, 1, 5]
  | 168, 9 => [0, 3, 4, 5]
  | 169, 11 => [0, 1, 2, 3, 9, 10]
  | 175, 1 => [0, 1, 4]
  | 176, 11 => [0, 1, 3, 4, 10, 11, 12, 13, 14, 15, 16]
  | 176, 18 => [0, 1, 3, 4, 10, 11, 12, 13, 17]
  | 178, 6 => [0, 1, 6, 7]
  | 179, 6 => [0, 1, 5]
  | 187, 2 => [2, 4]
  | 190, 15 => [0, 1, 5, 6, 7, 8, 9, 10]
  | 197, 11 => [0, 1, 5, 6, 7, 8, 10]
  | 197, 5 => [0, 1, 5, 6, 7, 8, 9]
  | 198, 8 => [4, 6, 7, 8]
  | 198, 3 => [0, 4, 5]
  | _, _ => []
def primX (md : Den.Mode) (f : FuncId) : Option (List AV → Heap → T) :=
  match md with
  | some _ => none
  | none =>
    match f with
    | 83 => some (stringG 107 5)
    | 98 => some joinG
    | 104 => some itoaG
    | 161 => some (copyG 107)
    | _ => none
def HX : Hints := { prim := primX, live := liveX, pans := fun _ => true, outs := fun _ _ => [], post := fun _ => none, exact := true }

theorem run0 : runK Go.Proofs.Tryz.prog HX 90 none 13 [.e (.str [123, 110, 97, 109, 101, 58, 32, 116, 101, 120, 116, 32, 49, 46, 46, 56, 44, 32, 112, 111, 114, 116, 63, 58, 32, 105, 110, 116, 32, 49, 46, 46, 54, 53, 53, 51, 53, 125])] [] = some (.ret (.tup [.agg [.e (.int .i64 6), .e (.int .i64 0), .e (.int .i64 0), .e (.sl 9 []), .e (.sl 27 []), .e (.sl 81 [.agg [.str [110, 97, 109, 101], .bool false, .int .i64 2, .int .i64 1, .int .i64 8, .sl 9 [], .sl 27 [], .sl 81 []], .agg [.str [112, 111, 114, 116], .bool true, .int .i64 1, .int .i64 1, .int .i64 65535, .sl 9 [], .sl 27 [], .sl 81 []]])], .e (.int .i64 0), .e (.int .i64 0)]), []) := by kernel_rfl
theorem run1 : runK Go.Proofs.Tryz.prog HX 90 none 13 [.e (.str [105, 110, 116, 32, 53, 46, 46, 120])] [] = some (.ret (.tup [.agg [.e (.int .i64 0), .e (.int .i64 0), .e (.int .i64 0), .e (.sl 9 []), .e (.sl 27 []), .e (.sl 81 [])], .e (.int .i64 7), .e (.int .i64 2)]), []) := by kernel_rfl
theorem run2 : runK Go.Proofs.Tryz.prog HX 90 none 19 [.e (.str [123, 112, 111, 114, 116, 58, 56, 48, 125])] [] = some (.ret (.tup [.agg [.e (.int .i64 6), .e (.int .i64 0), .e (.str []), .e (.sl 9 [.str [112, 111, 114, 116]]), .e (.sl 39 [.agg [.int .i64 1, .int .i64 80, .str [], .sl 9 [], .sl 39 []]])], .e (.int .i64 0), .e (.int .i64 0)]), []) := by kernel_rfl
theorem run3 : runK Go.Proofs.Tryz.prog HX 90 none 20 [.agg [.e (.int .i64 6), .e (.int .i64 0), .e (.int .i64 0), .e (.sl 9 []), .e (.sl 27 []), .e (.sl 81 [.agg [.str [110, 97, 109, 101], .bool false, .int .i64 2, .int .i64 1, .int .i64 8, .sl 9 [], .sl 27 [], .sl 81 []], .agg [.str [112, 111, 114, 116], .bool true, .int .i64 1, .int .i64 1, .int .i64 65535, .sl 9 [], .sl 27 [], .sl 81 []]])], .agg [.e (.int .i64 6), .e (.int .i64 0), .e (.str []), .e (.sl 9 [.str [112, 111, 114, 116]]), .e (.sl 39 [.agg [.int .i64 1, .int .i64 80, .str [], .sl 9 [], .sl 39 []]])]] [] = some (.ret (.tup [.e (.str [46, 110, 97, 109, 101]), .e (.bool false)]), []) := by kernel_rfl
theorem run4 : runK Go.Proofs.Tryz.prog HX 90 none 16 [.agg [.e (.int .i64 6), .e (.int .i64 0), .e (.int .i64 0), .e (.sl 9 []), .e (.sl 27 []), .e (.sl 81 [.agg [.str [110, 97, 109, 101], .bool false, .int .i64 2, .int .i64 1, .int .i64 8, .sl 9 [], .sl 27 [], .sl 81 []], .agg [.str [112, 111, 114, 116], .bool true, .int .i64 1, .int .i64 1, .int .i64 65535, .sl 9 [], .sl 27 [], .sl 81 []]])]] [] = some (.ret (.tup [.e (.str [123, 110, 97, 109, 101, 58, 32, 116, 101, 120, 116, 32, 49, 46, 46, 56, 44, 32, 112, 111, 114, 116, 63, 58, 32, 105, 110, 116, 32, 49, 46, 46, 54, 53, 53, 51, 53, 125]), .e (.int .i64 0)]), []) := by kernel_rfl
theorem run5 : runK Go.Proofs.Tryz.prog HX 90 none 41 [.agg [.e (.int .i64 2), .e (.int .i64 0), .e (.str [97, 34, 98]), .e (.sl 9 []), .e (.sl 39 [])]] [] = some (.ret (.tup [.e (.str [34, 97, 92, 34, 98, 34]), .e (.int .i64 0)]), []) := by kernel_rfl
theorem run6 : runK Go.Proofs.Tryz.prog HX 90 none 21 [.agg [.e (.int .i64 6), .e (.int .i64 0), .e (.int .i64 0), .e (.sl 9 []), .e (.sl 27 []), .e (.sl 81 [.agg [.str [110, 97, 109, 101], .bool false, .int .i64 2, .int .i64 1, .int .i64 8, .sl 9 [], .sl 27 [], .sl 81 []], .agg [.str [112, 111, 114, 116], .bool true, .int .i64 1, .int .i64 1, .int .i64 65535, .sl 9 [], .sl 27 [], .sl 81 []]])], .e (.str [123, 110, 97, 109, 101, 58, 34, 97, 34, 125])] [] = some (.ret (.e (.bool true)), []) := by kernel_rfl
theorem run7 : runK Go.Proofs.Tryz.prog HX 90 none 21 [.agg [.e (.int .i64 6), .e (.int .i64 0), .e (.int .i64 0), .e (.sl 9 []), .e (.sl 27 []), .e (.sl 81 [.agg [.str [110, 97, 109, 101], .bool false, .int .i64 2, .int .i64 1, .int .i64 8, .sl 9 [], .sl 27 [], .sl 81 []], .agg [.str [112, 111, 114, 116], .bool true, .int .i64 1, .int .i64 1, .int .i64 65535, .sl 9 [], .sl 27 [], .sl 81 []]])], .e (.str [123, 110, 97, 109, 101, 58, 34, 97, 34, 44, 115, 105, 122, 101, 58, 49, 125])] [] = some (.ret (.e (.bool false)), []) := by kernel_rfl
theorem run8 : runK Go.Proofs.Tryz.prog HX 90 none 42 [.agg [.e (.int .i64 0), .e (.int .i64 0), .e (.int .i64 0), .e (.sl 9 []), .e (.sl 27 []), .e (.sl 81 [])]] [] = some (.ret (.e (.int .i64 10)), []) := by kernel_rfl
theorem run9 : runK Go.Proofs.Tryz.prog HX 90 none 43 [.agg [.e (.int .i64 7), .e (.int .i64 0), .e (.int .i64 0), .e (.sl 9 []), .e (.sl 27 []), .e (.sl 81 [])], .agg [.e (.int .i64 6), .e (.int .i64 0), .e (.int .i64 0), .e (.sl 9 []), .e (.sl 27 []), .e (.sl 81 [.agg [.str [110, 97, 109, 101], .bool false, .int .i64 2, .int .i64 1, .int .i64 8, .sl 9 [], .sl 27 [], .sl 81 []], .agg [.str [112, 111, 114, 116], .bool true, .int .i64 1, .int .i64 1, .int .i64 65535, .sl 9 [], .sl 27 [], .sl 81 []]])]] [] = some (.ret (.e (.bool true)), []) := by kernel_rfl
theorem run10 : runK Go.Proofs.Tryz.prog HX 90 none 43 [.agg [.e (.int .i64 6), .e (.int .i64 0), .e (.int .i64 0), .e (.sl 9 []), .e (.sl 27 []), .e (.sl 81 [.agg [.str [110, 97, 109, 101], .bool false, .int .i64 2, .int .i64 1, .int .i64 8, .sl 9 [], .sl 27 [], .sl 81 []], .agg [.str [112, 111, 114, 116], .bool true, .int .i64 1, .int .i64 1, .int .i64 65535, .sl 9 [], .sl 27 [], .sl 81 []]])], .agg [.e (.int .i64 7), .e (.int .i64 0), .e (.int .i64 0), .e (.sl 9 []), .e (.sl 27 []), .e (.sl 81 [])]] [] = some (.ret (.e (.bool false)), []) := by kernel_rfl

def tab : Tab := [
  (13, [.e (.str [123, 110, 97, 109, 101, 58, 32, 116, 101, 120, 116, 32, 49, 46, 46, 56, 44, 32, 112, 111, 114, 116, 63, 58, 32, 105, 110, 116, 32, 49, 46, 46, 54, 53, 53, 51, 53, 125])], .ret (.tup [.agg [.e (.int .i64 6), .e (.int .i64 0), .e (.int .i64 0), .e (.sl 9 []), .e (.sl 27 []), .e (.sl 81 [.agg [.str [110, 97, 109, 101], .bool false, .int .i64 2, .int .i64 1, .int .i64 8, .sl 9 [], .sl 27 [], .sl 81 []], .agg [.str [112, 111, 114, 116], .bool true, .int .i64 1, .int .i64 1, .int .i64 65535, .sl 9 [], .sl 27 [], .sl 81 []]])], .e (.int .i64 0), .e (.int .i64 0)])),
  (13, [.e (.str [105, 110, 116, 32, 53, 46, 46, 120])], .ret (.tup [.agg [.e (.int .i64 0), .e (.int .i64 0), .e (.int .i64 0), .e (.sl 9 []), .e (.sl 27 []), .e (.sl 81 [])], .e (.int .i64 7), .e (.int .i64 2)])),
  (19, [.e (.str [123, 112, 111, 114, 116, 58, 56, 48, 125])], .ret (.tup [.agg [.e (.int .i64 6), .e (.int .i64 0), .e (.str []), .e (.sl 9 [.str [112, 111, 114, 116]]), .e (.sl 39 [.agg [.int .i64 1, .int .i64 80, .str [], .sl 9 [], .sl 39 []]])], .e (.int .i64 0), .e (.int .i64 0)])),
  (20, [.agg [.e (.int .i64 6), .e (.int .i64 0), .e (.int .i64 0), .e (.sl 9 []), .e (.sl 27 []), .e (.sl 81 [.agg [.str [110, 97, 109, 101], .bool false, .int .i64 2, .int .i64 1, .int .i64 8, .sl 9 [], .sl 27 [], .sl 81 []], .agg [.str [112, 111, 114, 116], .bool true, .int .i64 1, .int .i64 1, .int .i64 65535, .sl 9 [], .sl 27 [], .sl 81 []]])], .agg [.e (.int .i64 6), .e (.int .i64 0), .e (.str []), .e (.sl 9 [.str [112, 111, 114, 116]]), .e (.sl 39 [.agg [.int .i64 1, .int .i64 80, .str [], .sl 9 [], .sl 39 []]])]], .ret (.tup [.e (.str [46, 110, 97, 109, 101]), .e (.bool false)])),
  (16, [.agg [.e (.int .i64 6), .e (.int .i64 0), .e (.int .i64 0), .e (.sl 9 []), .e (.sl 27 []), .e (.sl 81 [.agg [.str [110, 97, 109, 101], .bool false, .int .i64 2, .int .i64 1, .int .i64 8, .sl 9 [], .sl 27 [], .sl 81 []], .agg [.str [112, 111, 114, 116], .bool true, .int .i64 1, .int .i64 1, .int .i64 65535, .sl 9 [], .sl 27 [], .sl 81 []]])]], .ret (.tup [.e (.str [123, 110, 97, 109, 101, 58, 32, 116, 101, 120, 116, 32, 49, 46, 46, 56, 44, 32, 112, 111, 114, 116, 63, 58, 32, 105, 110, 116, 32, 49, 46, 46, 54, 53, 53, 51, 53, 125]), .e (.int .i64 0)])),
  (41, [.agg [.e (.int .i64 2), .e (.int .i64 0), .e (.str [97, 34, 98]), .e (.sl 9 []), .e (.sl 39 [])]], .ret (.tup [.e (.str [34, 97, 92, 34, 98, 34]), .e (.int .i64 0)])),
  (21, [.agg [.e (.int .i64 6), .e (.int .i64 0), .e (.int .i64 0), .e (.sl 9 []), .e (.sl 27 []), .e (.sl 81 [.agg [.str [110, 97, 109, 101], .bool false, .int .i64 2, .int .i64 1, .int .i64 8, .sl 9 [], .sl 27 [], .sl 81 []], .agg [.str [112, 111, 114, 116], .bool true, .int .i64 1, .int .i64 1, .int .i64 65535, .sl 9 [], .sl 27 [], .sl 81 []]])], .e (.str [123, 110, 97, 109, 101, 58, 34, 97, 34, 125])], .ret (.e (.bool true))),
  (21, [.agg [.e (.int .i64 6), .e (.int .i64 0), .e (.int .i64 0), .e (.sl 9 []), .e (.sl 27 []), .e (.sl 81 [.agg [.str [110, 97, 109, 101], .bool false, .int .i64 2, .int .i64 1, .int .i64 8, .sl 9 [], .sl 27 [], .sl 81 []], .agg [.str [112, 111, 114, 116], .bool true, .int .i64 1, .int .i64 1, .int .i64 65535, .sl 9 [], .sl 27 [], .sl 81 []]])], .e (.str [123, 110, 97, 109, 101, 58, 34, 97, 34, 44, 115, 105, 122, 101, 58, 49, 125])], .ret (.e (.bool false))),
  (42, [.agg [.e (.int .i64 0), .e (.int .i64 0), .e (.int .i64 0), .e (.sl 9 []), .e (.sl 27 []), .e (.sl 81 [])]], .ret (.e (.int .i64 10))),
  (43, [.agg [.e (.int .i64 7), .e (.int .i64 0), .e (.int .i64 0), .e (.sl 9 []), .e (.sl 27 []), .e (.sl 81 [])], .agg [.e (.int .i64 6), .e (.int .i64 0), .e (.int .i64 0), .e (.sl 9 []), .e (.sl 27 []), .e (.sl 81 [.agg [.str [110, 97, 109, 101], .bool false, .int .i64 2, .int .i64 1, .int .i64 8, .sl 9 [], .sl 27 [], .sl 81 []], .agg [.str [112, 111, 114, 116], .bool true, .int .i64 1, .int .i64 1, .int .i64 65535, .sl 9 [], .sl 27 [], .sl 81 []]])]], .ret (.e (.bool true))),
  (43, [.agg [.e (.int .i64 6), .e (.int .i64 0), .e (.int .i64 0), .e (.sl 9 []), .e (.sl 27 []), .e (.sl 81 [.agg [.str [110, 97, 109, 101], .bool false, .int .i64 2, .int .i64 1, .int .i64 8, .sl 9 [], .sl 27 [], .sl 81 []], .agg [.str [112, 111, 114, 116], .bool true, .int .i64 1, .int .i64 1, .int .i64 65535, .sl 9 [], .sl 27 [], .sl 81 []]])], .agg [.e (.int .i64 7), .e (.int .i64 0), .e (.int .i64 0), .e (.sl 9 []), .e (.sl 27 []), .e (.sl 81 [])]], .ret (.e (.bool false)))]
theorem tabAll : TabAll Go.Proofs.Tryz.prog HX tab := by
  intro p hp
  simp only [tab, List.mem_cons, List.not_mem_nil, or_false] at hp
  rcases hp with rfl | rfl | rfl | rfl | rfl | rfl | rfl | rfl | rfl | rfl | rfl
  · exact ⟨90, run0⟩
  · exact ⟨90, run1⟩
  · exact ⟨90, run2⟩
  · exact ⟨90, run3⟩
  · exact ⟨90, run4⟩
  · exact ⟨90, run5⟩
  · exact ⟨90, run6⟩
  · exact ⟨90, run7⟩
  · exact ⟨90, run8⟩
  · exact ⟨90, run9⟩
  · exact ⟨90, run10⟩
def primA (md : Den.Mode) (f : FuncId) : Option (List AV → Heap → T) :=
  match md with
  | some _ => none
  | none => if [13, 16, 19, 20, 21, 41, 42, 43].contains f then some (tabG f tab) else none
def HA : Hints := { prim := primA, live := liveX, pans := fun _ => true, outs := fun _ _ => [], post := fun _ => none, exact := true }
theorem runAwake : runK Go.Proofs.Tryz.prog HA 9 none 12 [] [] = some (.ret (.e (.bool true)), []) := by kernel_rfl

theorem mixed : Go.Proofs.Tryz.prog.follows .mixedOrders = true := by kernel_rfl
theorem named : Named Go.Proofs.Tryz.prog := by
  have h : (Go.Proofs.Tryz.prog.funcs.toList.all fun fn => !(fn.name == "runtime.NumGoroutine")) = true := by kernel_rfl
  intro f fn hf
  have := List.all_eq_true.1 h fn (List.mem_of_getElem? (i := f) (by simpa using hf))
  simpa using this
theorem primsX : PrimOk Go.Proofs.Tryz.prog HX := by
  intro md f g args σ r σ' h hq
  change primX md f = some g at h
  unfold primX at h
  split at h
  · cases h
  · split at h
    · injection h with h; subst h; exact Go.Proofs.Tryz.string_prim args σ r σ' hq
    · injection h with h; subst h; exact Go.Proofs.Tryz.join_prim args σ r σ' hq
    · injection h with h; subst h; exact Go.Proofs.Tryz.itoa_prim args σ r σ' hq
    · injection h with h; subst h; exact Go.Proofs.Tryz.copy_prim args σ r σ' hq
    · cases h
theorem primsA : PrimOk Go.Proofs.Tryz.prog HA := by
  intro md f g args σ r σ' h hq
  change primA md f = some g at h
  unfold primA at h
  split at h
  · cases h
  · split at h
    · injection h with h; subst h
      exact tab_prim mixed named primsX tabAll f args σ r σ' hq
    · cases h

theorem awake_prim : PrimFor Go.Proofs.Tryz.prog 12 trueG := by
  intro args σ r σ' h
  unfold trueG at h
  split at h
  · rw [quick_res] at h
    injection h with h; injection h with h1 h2
    subst h1; subst h2
    exact (runK_ok mixed named primsA 9).1 none 12 [] [] _ [] runAwake
  · cases h
end Go.Proofs.YtghdhhmlmdohkaaGreatDoor.Awa
