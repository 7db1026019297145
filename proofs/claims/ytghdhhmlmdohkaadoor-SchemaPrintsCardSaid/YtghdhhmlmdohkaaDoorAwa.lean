/- The closed run of Awa. -/
import Derived.Test.YtghdhhmlmdohkaaDoorLib
import Derived.Test.YtghdhhmlmdohkaaDoorDn5
import Derived.KernelRfl
namespace Go.Proofs.YtghdhhmlmdohkaaDoor.Awa
open Go Go.Den
set_option maxRecDepth 100000
set_option maxHeartbeats 0

def liveX (f i : Nat) : List Nat :=
  match f, i with
  | 11, 8 => [0, 1, 5, 6, 7]
  | 11, 4 => [0, 1, 5]
  | 19, 9 => [2, 3, 6]
  | 19, 4 => [2, 3, 5]
  | 24, 4 => [2, 3, 5]
  | 29, 20 => [2, 67, 68, 69]
  | 29, 6 => [2, 34, 35, 36]
  | 30, 13 => [2, 3, 5]
  | 32, 7 => [0, 3, 4, 5]
  | 32, 3 => [0, 3, 4]
  | 33, 12 => [0, 4, 12, 13, 14, 37, 38, 39]
  | 33, 4 => [0, 12, 13, 14]
  | 35, 7 => [1, 2, 6]
  | 35, 3 => [1, 2, 5]
  | 36, 12 => [1, 5, 33, 34, 35]
  | 36, 6 => [1, 2, 5, 16, 17, 18]
  | 37, 16 => [1, 42, 43, 44]
  | 37, 31 => [1, 83, 84, 85]
  | 38, 9 => [1, 2, 6]
  | 38, 4 => [1, 2, 5]
  | 40, 19 => [3, 59, 60, 61]
  | 41, 22 => [1, 3, 5]
  | 41, 13 => [1, 3, 4]
  | 43, 4 => [0, 1, 5]
  | 44, 3 => [1, 2, 5]
  | 45, 6 => [1, 5, 19, 20, 21]
  | 46, 13 => [1, 46, 47, 48]
  | 47, 6 => [0, 3, 5, 6, 15, 16, 17]
  | 49, 15 => [0, 3, 6, 7]
  | 54, 4 => [1, 2, 5]
  | 55, 8 => [1, 3]
  | 56, 2 => [1, 7, 8, 9]
  | 57, 2 => [2, 11, 12, 13]
  | 58, 2 => [2, 3, 6, 7]
  | 59, 14 => [2, 3, 4, 8, 9]
  | 60, 9 => [3, 39, 40, 41]
  | 60, 2 => [2, 3, 14, 15, 16]
  | 61, 2 => [1, 2, 5]
  | 63, 2 => [0, 1, 5]
  | 64, 8 => [0, 1, 7]
  | 64, 2 => [0, 1, 5]
  | 65, 7 => [1, 2, 6]
  | 65, 3 => [1, 2, 5]
  | 77, 6 => [0, 3]
  | 78, 4 => [0, 1, 5]
  | 80, 22 => [1, 8, 63, 64, 65]
  | 80, 12 => [0, 1, 5, 39, 40, 41]
  | 84, 19 => [0, 4, 5]
  | 90, 2 => [0, 1, 9, 10]
  | 91, 4 => [0, 3, 4, 5]
  | 94, 1 => [0, 1, 4]
  | 95, 3 => [0, 3]
  | 96, 6 => [0, 1, 4, 5]
  | 97, 6 => [0, 1, 4, 5]
  | 99, 10 => [0, 3, 4, 5, 6]
  | 101, 4 => [0, 3]
  | 102, 2 => [0, 1, 5]
  | 103, 2 => [0, 2, 4, 8, 9]
  | 104, 2 => [1, 4, 9, 10, 11]
  | 105, 2 => [0, 1, 5]
  | 106, 4 => [15]
  | 110, 7 => [3, 5, 6, 13, 14, 15, 20, 21, 22]
  | 110, 3 => [3, 13, 14, 15]
  | 111, 11 => [2, 3, 31, 32, 33]
  | 111, 5 => [1, 2, 3, 15, 16, 17]
  | 112, 2 => [0, 1, 7, 8]
  | 118, 1 => [0, 1, 6, 7]
  | 120, 5 => [0, 3, 4]
  | 123, 5 => [0, 1, 4, 5]
  | 127, 9 => [0, 3, 4, 5, 6, 7, 8]
  | 128, 3 => [0, 3]
  | 129, 5 => [0, 1, 4, 5]
  | 130, 5 => [0, 1, 4, 5]
  | 131, 9 => [0, 3, 4, 5]
  | 132, 5 => [0, 3]
  | 136, 5 => [3, 15]
  | 139, 4 => [9]
  | 154, 1 => [0, 1, 4]
  | 155, 11 => [0, 1, 3, 4, 10, 11, 12, 13, 14, 15, 16]
  | 155, 18 => [0, 1, 3, 4, 10, 11, 12, 13, 17]
  | 157, 11 => [0, 1, 2, 3, 9, 10]
  | 164, 6 => [0, 1, 6, 7]
  | 165, 6 => [0, 1, 5]
  | 170, 2 => [2, 4]
  | 173, 15 => [0, 1, 5, 6, 7, 8, 9, 10]
  | 177, 11 => [0, 1, 5, 6, 7, 8, 10]
  | 177, 5 => [0, 1, 5, 6, 7, 8, 9]
  | 178, 8 => [4, 6, 7, 8]
  | 178, 3 => [0, 4, 5]
  | _, _ => []
def primX (md : Den.Mode) (f : FuncId) : Option (List AV → Heap → T) :=
  match md with
  | some _ => none
  | none =>
    match f with
    | 48 => some (stringG 69 5)
    | 80 => some joinG
    | 88 => some itoaG
    | 124 => some (copyG 69)
    | _ => none
def HX : Hints := { prim := primX, live := liveX, pans := fun _ => true, outs := fun _ _ => [], post := fun _ => none, exact := true }

theorem run0 : runK Go.Proofs.Tryd.prog HX 90 none 18 [.e (.str [123, 110, 97, 109, 101, 58, 32, 116, 101, 120, 116, 32, 49, 46, 46, 56, 44, 32, 112, 111, 114, 116, 63, 58, 32, 105, 110, 116, 32, 49, 46, 46, 54, 53, 53, 51, 53, 125])] [] = some (.ret (.tup [.agg [.e (.int .i64 6), .e (.int .i64 0), .e (.int .i64 0), .e (.sl 9 []), .e (.sl 26 []), .e (.sl 64 [.agg [.str [110, 97, 109, 101], .bool false, .int .i64 2, .int .i64 1, .int .i64 8, .sl 9 [], .sl 26 [], .sl 64 []], .agg [.str [112, 111, 114, 116], .bool true, .int .i64 1, .int .i64 1, .int .i64 65535, .sl 9 [], .sl 26 [], .sl 64 []]])], .e (.int .i64 0), .e (.int .i64 0)]), []) := by kernel_rfl
theorem run1 : runK Go.Proofs.Tryd.prog HX 90 none 18 [.e (.str [105, 110, 116, 32, 53, 46, 46, 120])] [] = some (.ret (.tup [.agg [.e (.int .i64 0), .e (.int .i64 0), .e (.int .i64 0), .e (.sl 9 []), .e (.sl 26 []), .e (.sl 64 [])], .e (.int .i64 7), .e (.int .i64 2)]), []) := by kernel_rfl
theorem run2 : runK Go.Proofs.Tryd.prog HX 90 none 23 [.e (.str [123, 112, 111, 114, 116, 58, 56, 48, 125])] [] = some (.ret (.tup [.agg [.e (.int .i64 6), .e (.int .i64 0), .e (.str []), .e (.sl 9 [.str [112, 111, 114, 116]]), .e (.sl 38 [.agg [.int .i64 1, .int .i64 80, .str [], .sl 9 [], .sl 38 []]])], .e (.int .i64 0), .e (.int .i64 0)]), []) := by kernel_rfl
theorem run3 : runK Go.Proofs.Tryd.prog HX 90 none 27 [.agg [.e (.int .i64 6), .e (.int .i64 0), .e (.int .i64 0), .e (.sl 9 []), .e (.sl 26 []), .e (.sl 64 [.agg [.str [110, 97, 109, 101], .bool false, .int .i64 2, .int .i64 1, .int .i64 8, .sl 9 [], .sl 26 [], .sl 64 []], .agg [.str [112, 111, 114, 116], .bool true, .int .i64 1, .int .i64 1, .int .i64 65535, .sl 9 [], .sl 26 [], .sl 64 []]])], .agg [.e (.int .i64 6), .e (.int .i64 0), .e (.str []), .e (.sl 9 [.str [112, 111, 114, 116]]), .e (.sl 38 [.agg [.int .i64 1, .int .i64 80, .str [], .sl 9 [], .sl 38 []]])]] [] = some (.ret (.tup [.e (.str [46, 110, 97, 109, 101]), .e (.bool false)]), []) := by kernel_rfl
theorem run4 : runK Go.Proofs.Tryd.prog HX 90 none 16 [.agg [.e (.int .i64 6), .e (.int .i64 0), .e (.int .i64 0), .e (.sl 9 []), .e (.sl 26 []), .e (.sl 64 [.agg [.str [110, 97, 109, 101], .bool false, .int .i64 2, .int .i64 1, .int .i64 8, .sl 9 [], .sl 26 [], .sl 64 []], .agg [.str [112, 111, 114, 116], .bool true, .int .i64 1, .int .i64 1, .int .i64 65535, .sl 9 [], .sl 26 [], .sl 64 []]])]] [] = some (.ret (.tup [.e (.str [123, 110, 97, 109, 101, 58, 32, 116, 101, 120, 116, 32, 49, 46, 46, 56, 44, 32, 112, 111, 114, 116, 63, 58, 32, 105, 110, 116, 32, 49, 46, 46, 54, 53, 53, 51, 53, 125]), .e (.int .i64 0)]), []) := by kernel_rfl
theorem run5 : runK Go.Proofs.Tryd.prog HX 90 none 21 [.agg [.e (.int .i64 2), .e (.int .i64 0), .e (.str [97, 34, 98]), .e (.sl 9 []), .e (.sl 38 [])]] [] = some (.ret (.tup [.e (.str [34, 97, 92, 34, 98, 34]), .e (.int .i64 0)]), []) := by kernel_rfl
theorem run6 : runK Go.Proofs.Tryd.prog HX 90 none 31 [.agg [.e (.int .i64 6), .e (.int .i64 0), .e (.int .i64 0), .e (.sl 9 []), .e (.sl 26 []), .e (.sl 64 [.agg [.str [110, 97, 109, 101], .bool false, .int .i64 2, .int .i64 1, .int .i64 8, .sl 9 [], .sl 26 [], .sl 64 []], .agg [.str [112, 111, 114, 116], .bool true, .int .i64 1, .int .i64 1, .int .i64 65535, .sl 9 [], .sl 26 [], .sl 64 []]])], .e (.str [123, 110, 97, 109, 101, 58, 34, 97, 34, 125])] [] = some (.ret (.e (.bool true)), []) := by kernel_rfl
theorem run7 : runK Go.Proofs.Tryd.prog HX 90 none 31 [.agg [.e (.int .i64 6), .e (.int .i64 0), .e (.int .i64 0), .e (.sl 9 []), .e (.sl 26 []), .e (.sl 64 [.agg [.str [110, 97, 109, 101], .bool false, .int .i64 2, .int .i64 1, .int .i64 8, .sl 9 [], .sl 26 [], .sl 64 []], .agg [.str [112, 111, 114, 116], .bool true, .int .i64 1, .int .i64 1, .int .i64 65535, .sl 9 [], .sl 26 [], .sl 64 []]])], .e (.str [123, 110, 97, 109, 101, 58, 34, 97, 34, 44, 115, 105, 122, 101, 58, 49, 125])] [] = some (.ret (.e (.bool false)), []) := by kernel_rfl
theorem run8 : runK Go.Proofs.Tryd.prog HX 90 none 14 [.agg [.e (.int .i64 0), .e (.int .i64 0), .e (.int .i64 0), .e (.sl 9 []), .e (.sl 26 []), .e (.sl 64 [])]] [] = some (.ret (.e (.int .i64 10)), []) := by kernel_rfl
theorem run9 : runK Go.Proofs.Tryd.prog HX 90 none 29 [.agg [.e (.int .i64 7), .e (.int .i64 0), .e (.int .i64 0), .e (.sl 9 []), .e (.sl 26 []), .e (.sl 64 [])], .agg [.e (.int .i64 6), .e (.int .i64 0), .e (.int .i64 0), .e (.sl 9 []), .e (.sl 26 []), .e (.sl 64 [.agg [.str [110, 97, 109, 101], .bool false, .int .i64 2, .int .i64 1, .int .i64 8, .sl 9 [], .sl 26 [], .sl 64 []], .agg [.str [112, 111, 114, 116], .bool true, .int .i64 1, .int .i64 1, .int .i64 65535, .sl 9 [], .sl 26 [], .sl 64 []]])]] [] = some (.ret (.e (.bool true)), []) := by kernel_rfl
theorem run10 : runK Go.Proofs.Tryd.prog HX 90 none 29 [.agg [.e (.int .i64 6), .e (.int .i64 0), .e (.int .i64 0), .e (.sl 9 []), .e (.sl 26 []), .e (.sl 64 [.agg [.str [110, 97, 109, 101], .bool false, .int .i64 2, .int .i64 1, .int .i64 8, .sl 9 [], .sl 26 [], .sl 64 []], .agg [.str [112, 111, 114, 116], .bool true, .int .i64 1, .int .i64 1, .int .i64 65535, .sl 9 [], .sl 26 [], .sl 64 []]])], .agg [.e (.int .i64 7), .e (.int .i64 0), .e (.int .i64 0), .e (.sl 9 []), .e (.sl 26 []), .e (.sl 64 [])]] [] = some (.ret (.e (.bool false)), []) := by kernel_rfl

def tab : Tab := [
  (18, [.e (.str [123, 110, 97, 109, 101, 58, 32, 116, 101, 120, 116, 32, 49, 46, 46, 56, 44, 32, 112, 111, 114, 116, 63, 58, 32, 105, 110, 116, 32, 49, 46, 46, 54, 53, 53, 51, 53, 125])], .ret (.tup [.agg [.e (.int .i64 6), .e (.int .i64 0), .e (.int .i64 0), .e (.sl 9 []), .e (.sl 26 []), .e (.sl 64 [.agg [.str [110, 97, 109, 101], .bool false, .int .i64 2, .int .i64 1, .int .i64 8, .sl 9 [], .sl 26 [], .sl 64 []], .agg [.str [112, 111, 114, 116], .bool true, .int .i64 1, .int .i64 1, .int .i64 65535, .sl 9 [], .sl 26 [], .sl 64 []]])], .e (.int .i64 0), .e (.int .i64 0)])),
  (18, [.e (.str [105, 110, 116, 32, 53, 46, 46, 120])], .ret (.tup [.agg [.e (.int .i64 0), .e (.int .i64 0), .e (.int .i64 0), .e (.sl 9 []), .e (.sl 26 []), .e (.sl 64 [])], .e (.int .i64 7), .e (.int .i64 2)])),
  (23, [.e (.str [123, 112, 111, 114, 116, 58, 56, 48, 125])], .ret (.tup [.agg [.e (.int .i64 6), .e (.int .i64 0), .e (.str []), .e (.sl 9 [.str [112, 111, 114, 116]]), .e (.sl 38 [.agg [.int .i64 1, .int .i64 80, .str [], .sl 9 [], .sl 38 []]])], .e (.int .i64 0), .e (.int .i64 0)])),
  (27, [.agg [.e (.int .i64 6), .e (.int .i64 0), .e (.int .i64 0), .e (.sl 9 []), .e (.sl 26 []), .e (.sl 64 [.agg [.str [110, 97, 109, 101], .bool false, .int .i64 2, .int .i64 1, .int .i64 8, .sl 9 [], .sl 26 [], .sl 64 []], .agg [.str [112, 111, 114, 116], .bool true, .int .i64 1, .int .i64 1, .int .i64 65535, .sl 9 [], .sl 26 [], .sl 64 []]])], .agg [.e (.int .i64 6), .e (.int .i64 0), .e (.str []), .e (.sl 9 [.str [112, 111, 114, 116]]), .e (.sl 38 [.agg [.int .i64 1, .int .i64 80, .str [], .sl 9 [], .sl 38 []]])]], .ret (.tup [.e (.str [46, 110, 97, 109, 101]), .e (.bool false)])),
  (16, [.agg [.e (.int .i64 6), .e (.int .i64 0), .e (.int .i64 0), .e (.sl 9 []), .e (.sl 26 []), .e (.sl 64 [.agg [.str [110, 97, 109, 101], .bool false, .int .i64 2, .int .i64 1, .int .i64 8, .sl 9 [], .sl 26 [], .sl 64 []], .agg [.str [112, 111, 114, 116], .bool true, .int .i64 1, .int .i64 1, .int .i64 65535, .sl 9 [], .sl 26 [], .sl 64 []]])]], .ret (.tup [.e (.str [123, 110, 97, 109, 101, 58, 32, 116, 101, 120, 116, 32, 49, 46, 46, 56, 44, 32, 112, 111, 114, 116, 63, 58, 32, 105, 110, 116, 32, 49, 46, 46, 54, 53, 53, 51, 53, 125]), .e (.int .i64 0)])),
  (21, [.agg [.e (.int .i64 2), .e (.int .i64 0), .e (.str [97, 34, 98]), .e (.sl 9 []), .e (.sl 38 [])]], .ret (.tup [.e (.str [34, 97, 92, 34, 98, 34]), .e (.int .i64 0)])),
  (31, [.agg [.e (.int .i64 6), .e (.int .i64 0), .e (.int .i64 0), .e (.sl 9 []), .e (.sl 26 []), .e (.sl 64 [.agg [.str [110, 97, 109, 101], .bool false, .int .i64 2, .int .i64 1, .int .i64 8, .sl 9 [], .sl 26 [], .sl 64 []], .agg [.str [112, 111, 114, 116], .bool true, .int .i64 1, .int .i64 1, .int .i64 65535, .sl 9 [], .sl 26 [], .sl 64 []]])], .e (.str [123, 110, 97, 109, 101, 58, 34, 97, 34, 125])], .ret (.e (.bool true))),
  (31, [.agg [.e (.int .i64 6), .e (.int .i64 0), .e (.int .i64 0), .e (.sl 9 []), .e (.sl 26 []), .e (.sl 64 [.agg [.str [110, 97, 109, 101], .bool false, .int .i64 2, .int .i64 1, .int .i64 8, .sl 9 [], .sl 26 [], .sl 64 []], .agg [.str [112, 111, 114, 116], .bool true, .int .i64 1, .int .i64 1, .int .i64 65535, .sl 9 [], .sl 26 [], .sl 64 []]])], .e (.str [123, 110, 97, 109, 101, 58, 34, 97, 34, 44, 115, 105, 122, 101, 58, 49, 125])], .ret (.e (.bool false))),
  (14, [.agg [.e (.int .i64 0), .e (.int .i64 0), .e (.int .i64 0), .e (.sl 9 []), .e (.sl 26 []), .e (.sl 64 [])]], .ret (.e (.int .i64 10))),
  (29, [.agg [.e (.int .i64 7), .e (.int .i64 0), .e (.int .i64 0), .e (.sl 9 []), .e (.sl 26 []), .e (.sl 64 [])], .agg [.e (.int .i64 6), .e (.int .i64 0), .e (.int .i64 0), .e (.sl 9 []), .e (.sl 26 []), .e (.sl 64 [.agg [.str [110, 97, 109, 101], .bool false, .int .i64 2, .int .i64 1, .int .i64 8, .sl 9 [], .sl 26 [], .sl 64 []], .agg [.str [112, 111, 114, 116], .bool true, .int .i64 1, .int .i64 1, .int .i64 65535, .sl 9 [], .sl 26 [], .sl 64 []]])]], .ret (.e (.bool true))),
  (29, [.agg [.e (.int .i64 6), .e (.int .i64 0), .e (.int .i64 0), .e (.sl 9 []), .e (.sl 26 []), .e (.sl 64 [.agg [.str [110, 97, 109, 101], .bool false, .int .i64 2, .int .i64 1, .int .i64 8, .sl 9 [], .sl 26 [], .sl 64 []], .agg [.str [112, 111, 114, 116], .bool true, .int .i64 1, .int .i64 1, .int .i64 65535, .sl 9 [], .sl 26 [], .sl 64 []]])], .agg [.e (.int .i64 7), .e (.int .i64 0), .e (.int .i64 0), .e (.sl 9 []), .e (.sl 26 []), .e (.sl 64 [])]], .ret (.e (.bool false)))]
theorem tabAll : TabAll Go.Proofs.Tryd.prog HX tab := by
  intro p hp
  simp only [tab, List.mem_cons, List.not_mem_nil, or_false] at hp
  rcases hp with rfl | rfl | rfl | rfl | rfl | rfl | rfl | rfl | rfl | rfl | rfl
  · exact ⟨90, run0⟩
  · exact ⟨90, run1⟩
  · exact ⟨90, run2⟩
  · exact ⟨90, run3⟩
  · exact ⟨90, run4⟩
  · exact ⟨90, run5⟩
  · exact ⟨90, run6⟩
  · exact ⟨90, run7⟩
  · exact ⟨90, run8⟩
  · exact ⟨90, run9⟩
  · exact ⟨90, run10⟩
def primA (md : Den.Mode) (f : FuncId) : Option (List AV → Heap → T) :=
  match md with
  | some _ => none
  | none => if [14, 16, 18, 21, 23, 27, 29, 31].contains f then some (tabG f tab) else none
def HA : Hints := { prim := primA, live := liveX, pans := fun _ => true, outs := fun _ _ => [], post := fun _ => none, exact := true }
theorem runAwake : runK Go.Proofs.Tryd.prog HA 9 none 13 [] [] = some (.ret (.e (.bool true)), []) := by kernel_rfl

theorem mixed : Go.Proofs.Tryd.prog.follows .mixedOrders = true := by kernel_rfl
theorem named : Named Go.Proofs.Tryd.prog := by
  have h : (Go.Proofs.Tryd.prog.funcs.toList.all fun fn => !(fn.name == "runtime.NumGoroutine")) = true := by kernel_rfl
  intro f fn hf
  have := List.all_eq_true.1 h fn (List.mem_of_getElem? (i := f) (by simpa using hf))
  simpa using this
theorem primsX : PrimOk Go.Proofs.Tryd.prog HX := by
  intro md f g args σ r σ' h hq
  change primX md f = some g at h
  unfold primX at h
  split at h
  · cases h
  · split at h
    · injection h with h; subst h; exact Go.Proofs.Tryd.string_prim args σ r σ' hq
    · injection h with h; subst h; exact Go.Proofs.Tryd.join_prim args σ r σ' hq
    · injection h with h; subst h; exact Go.Proofs.Tryd.itoa_prim args σ r σ' hq
    · injection h with h; subst h; exact Go.Proofs.Tryd.copy_prim args σ r σ' hq
    · cases h
theorem primsA : PrimOk Go.Proofs.Tryd.prog HA := by
  intro md f g args σ r σ' h hq
  change primA md f = some g at h
  unfold primA at h
  split at h
  · cases h
  · split at h
    · injection h with h; subst h
      exact tab_prim mixed named primsX tabAll f args σ r σ' hq
    · cases h

theorem awake_prim : PrimFor Go.Proofs.Tryd.prog 13 trueG := by
  intro args σ r σ' h
  unfold trueG at h
  split at h
  · rw [quick_res] at h
    injection h with h; injection h with h1 h2
    subst h1; subst h2
    exact (runK_ok mixed named primsA 9).1 none 13 [] [] _ [] runAwake
  · cases h
end Go.Proofs.YtghdhhmlmdohkaaDoor.Awa
