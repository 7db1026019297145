/- The closed run of awake. -/
import Derived.Test.YtapndkailgcboaaGreatDoorLib
import Derived.Test.YtapndkailgcboaaGreatDoorDn7
import Derived.KernelRfl
namespace Go.Proofs.YtapndkailgcboaaGreatDoor.Awa
open Go Go.Den
set_option maxRecDepth 100000
set_option maxHeartbeats 0

def liveX (f i : Nat) : List Nat :=
  match f, i with
  | 8, 8 => [0, 5, 6, 7, 8]
  | 8, 5 => [0, 5, 6, 7]
  | 9, 3 => [0, 3, 4]
  | 10, 7 => [0, 3, 4, 5]
  | 10, 3 => [0, 3, 4]
  | 12, 12 => [0, 4, 12, 13, 14, 37, 38, 39]
  | 12, 4 => [0, 12, 13, 14]
  | 13, 4 => [0, 3]
  | 14, 7 => [1, 2, 6]
  | 14, 3 => [1, 2, 5]
  | 20, 4 => [0, 1, 5]
  | 24, 2 => [0, 1, 4, 6]
  | 25, 4 => [2, 3, 5]
  | 32, 4 => [0, 3]
  | 33, 2 => [0, 1, 5]
  | 34, 5 => [3, 4]
  | 36, 4 => [1, 3]
  | 37, 9 => [1, 2, 6]
  | 37, 4 => [1, 2, 5]
  | 40, 13 => [2, 3, 5]
  | 41, 7 => [3, 5, 6, 13, 14, 15, 20, 21, 22]
  | 41, 3 => [3, 13, 14, 15]
  | 43, 11 => [2, 3, 31, 32, 33]
  | 43, 5 => [1, 2, 3, 15, 16, 17]
  | 44, 2 => [0, 1, 7, 8]
  | 46, 5 => [5, 6, 26, 27, 28]
  | 48, 9 => [2, 3, 6]
  | 48, 4 => [2, 3, 5]
  | 51, 4 => [0, 3, 4, 5]
  | 55, 4 => [15]
  | 56, 9 => [3, 4, 5, 6, 15, 16, 17, 23]
  | 56, 6 => [3, 4, 15, 16, 17]
  | 57, 12 => [1, 5, 33, 34, 35]
  | 57, 6 => [1, 2, 5, 16, 17, 18]
  | 58, 16 => [1, 42, 43, 44]
  | 58, 31 => [1, 83, 84, 85]
  | 62, 2 => [0, 1, 5]
  | 65, 6 => [0, 3]
  | 66, 4 => [0, 1, 5]
  | 67, 2 => [1, 2, 5]
  | 68, 2 => [0, 1, 5]
  | 69, 8 => [0, 1, 7]
  | 69, 2 => [0, 1, 5]
  | 72, 4 => [9]
  | 77, 4 => [0, 1, 5]
  | 82, 5 => [3, 15]
  | 86, 2 => [0, 1, 5]
  | 91, 2 => [1, 7, 8, 9]
  | 92, 2 => [2, 11, 12, 13]
  | 93, 2 => [2, 3, 6, 7]
  | 97, 14 => [2, 3, 4, 8, 9]
  | 98, 11 => [0, 1, 2, 3, 9, 10]
  | 104, 1 => [0, 1, 4]
  | 105, 3 => [0, 3]
  | 106, 6 => [0, 1, 4, 5]
  | 107, 6 => [0, 1, 4, 5]
  | 109, 10 => [0, 3, 4, 5, 6]
  | 110, 2 => [0, 1, 5]
  | 112, 2 => [0, 2, 4, 8, 9]
  | 113, 6 => [0, 1, 6, 7]
  | 114, 6 => [0, 1, 5]
  | 118, 9 => [0, 3, 4, 5, 6, 7, 8]
  | 119, 1 => [0, 1, 6, 7]
  | 120, 3 => [0, 3]
  | 121, 5 => [0, 1, 4, 5]
  | 122, 5 => [0, 1, 4, 5]
  | 124, 9 => [0, 3, 4, 5]
  | 125, 5 => [0, 3]
  | 126, 2 => [2, 4]
  | 129, 15 => [0, 1, 5, 6, 7, 8, 9, 10]
  | 134, 5 => [0, 3, 4]
  | 142, 11 => [0, 1, 5, 6, 7, 8, 10]
  | 142, 5 => [0, 1, 5, 6, 7, 8, 9]
  | 148, 1 => [0, 1, 4]
  | 149, 11 => [0, 1, 3, 4, 10, 11, 12, 13, 14, 15, 16]
  | 149, 18 => [0, 1, 3, 4, 10, 11, 12, 13, 17]
  | 151, 8 => [4, 6, 7, 8]
  | 151, 3 => [0, 4, 5]
  | 178, 20 => [2, 67, 68, 69]
  | 178, 6 => [2, 34, 35, 36]
  | 179, 9 => [3, 39, 40, 41]
  | 179, 2 => [2, 3, 14, 15, 16]
  | 180, 2 => [1, 4, 9, 10, 11]
  | _, _ => []
def primX (md : Den.Mode) (f : FuncId) : Option (List AV → Heap → T) :=
  match md with
  | some _ => none
  | none =>
    match f with
    | 133 => some (stringG 141 5)
    | 102 => some (itoaG)
    | 143 => some (copyG 141)
    | 89 => some (splitG 9)
    | 71 => some (cloneG 9 16)
    | _ => none
def arrX (f : FuncId) : Bool := f == 41 || f == 21
def HX (a m : FuncId → Bool) : Hints := { prim := primX, live := liveX, pans := fun _ => true, outs := fun _ _ => [], post := fun _ => none, exact := true, own := fun _ => false, give := fun f => f == 41, arrF := a, arrAt := fun f _ _ => a f, bare := fun f _ => if f == 41 then [6] else [], melt := m }
/-- Register: the copies stay arrays. -/
def HR : Hints := HX arrX fun f => f == 21
/-- The others: the copies are handed back as data. -/
def HO : Hints := HX (fun _ => false) fun _ => false

theorem run0 : runK Tryz.prog HO 90 none 18 [.e (.sl 46 []), .e (.str [115]), .e (.str [97, 47, 35]), .e (.int .i64 2)] [] = some (.ret (.tup [.e (.sl 46 [.agg [.str [115], .str [97, 47, 35], .int .i64 2, .sl 31 []]]), .e (.int .i64 0)]), []) := by kernel_rfl
theorem run1 : runK Tryz.prog HO 90 none 29 [.e (.bool false)] [] = some (.ret (.agg [.e (.int .i64 6), .e (.int .i64 0), .e (.int .i64 0), .e (.sl 9 []), .e (.sl 31 []), .e (.sl 65 [.agg [.str [97], .bool false, .int .i64 1, .int .i64 0, .int .i64 9, .sl 9 [], .sl 31 [], .sl 65 []]])]), []) := by kernel_rfl
theorem run2 : runK Tryz.prog HR 90 none 21 [.e (.sl 46 [.agg [.str [115], .str [97, 47, 35], .int .i64 2, .sl 31 []]]), .e (.str [115]), .agg [.e (.int .i64 6), .e (.int .i64 0), .e (.int .i64 0), .e (.sl 9 []), .e (.sl 31 []), .e (.sl 65 [.agg [.str [97], .bool false, .int .i64 1, .int .i64 0, .int .i64 9, .sl 9 [], .sl 31 [], .sl 65 []]])]] [] = some (.ret (.tup [.e (.sl 46 [.agg [.str [115], .str [97, 47, 35], .int .i64 2, .sl 31 [.agg [.int .i64 6, .int .i64 0, .int .i64 0, .sl 9 [], .sl 31 [], .sl 65 [.agg [.str [97], .bool false, .int .i64 1, .int .i64 0, .int .i64 9, .sl 9 [], .sl 31 [], .sl 65 []]]]]]]), .e (.int .i64 1), .e (.int .i64 0)]), []) := by kernel_rfl
theorem run3 : runK Tryz.prog HO 90 none 29 [.e (.bool true)] [] = some (.ret (.agg [.e (.int .i64 6), .e (.int .i64 0), .e (.int .i64 0), .e (.sl 9 []), .e (.sl 31 []), .e (.sl 65 [.agg [.str [97], .bool false, .int .i64 1, .int .i64 0, .int .i64 9, .sl 9 [], .sl 31 [], .sl 65 []], .agg [.str [98], .bool true, .int .i64 1, .int .i64 0, .int .i64 9, .sl 9 [], .sl 31 [], .sl 65 []]])]), []) := by kernel_rfl
theorem run4 : runK Tryz.prog HR 90 none 21 [.e (.sl 46 [.agg [.str [115], .str [97, 47, 35], .int .i64 2, .sl 31 [.agg [.int .i64 6, .int .i64 0, .int .i64 0, .sl 9 [], .sl 31 [], .sl 65 [.agg [.str [97], .bool false, .int .i64 1, .int .i64 0, .int .i64 9, .sl 9 [], .sl 31 [], .sl 65 []]]]]]]), .e (.str [115]), .agg [.e (.int .i64 6), .e (.int .i64 0), .e (.int .i64 0), .e (.sl 9 []), .e (.sl 31 []), .e (.sl 65 [.agg [.str [97], .bool false, .int .i64 1, .int .i64 0, .int .i64 9, .sl 9 [], .sl 31 [], .sl 65 []], .agg [.str [98], .bool true, .int .i64 1, .int .i64 0, .int .i64 9, .sl 9 [], .sl 31 [], .sl 65 []]])]] [] = some (.ret (.tup [.e (.sl 46 [.agg [.str [115], .str [97, 47, 35], .int .i64 2, .sl 31 [.agg [.int .i64 6, .int .i64 0, .int .i64 0, .sl 9 [], .sl 31 [], .sl 65 [.agg [.str [97], .bool false, .int .i64 1, .int .i64 0, .int .i64 9, .sl 9 [], .sl 31 [], .sl 65 []]]], .agg [.int .i64 6, .int .i64 0, .int .i64 0, .sl 9 [], .sl 31 [], .sl 65 [.agg [.str [97], .bool false, .int .i64 1, .int .i64 0, .int .i64 9, .sl 9 [], .sl 31 [], .sl 65 []], .agg [.str [98], .bool true, .int .i64 1, .int .i64 0, .int .i64 9, .sl 9 [], .sl 31 [], .sl 65 []]]]]]]), .e (.int .i64 2), .e (.int .i64 0)]), []) := by kernel_rfl
theorem run5 : runK Tryz.prog HR 90 none 21 [.e (.sl 46 [.agg [.str [115], .str [97, 47, 35], .int .i64 2, .sl 31 [.agg [.int .i64 6, .int .i64 0, .int .i64 0, .sl 9 [], .sl 31 [], .sl 65 [.agg [.str [97], .bool false, .int .i64 1, .int .i64 0, .int .i64 9, .sl 9 [], .sl 31 [], .sl 65 []]]], .agg [.int .i64 6, .int .i64 0, .int .i64 0, .sl 9 [], .sl 31 [], .sl 65 [.agg [.str [97], .bool false, .int .i64 1, .int .i64 0, .int .i64 9, .sl 9 [], .sl 31 [], .sl 65 []], .agg [.str [98], .bool true, .int .i64 1, .int .i64 0, .int .i64 9, .sl 9 [], .sl 31 [], .sl 65 []]]]]]]), .e (.str [115]), .agg [.e (.int .i64 6), .e (.int .i64 0), .e (.int .i64 0), .e (.sl 9 []), .e (.sl 31 []), .e (.sl 65 [.agg [.str [97], .bool false, .int .i64 1, .int .i64 0, .int .i64 9, .sl 9 [], .sl 31 [], .sl 65 []]])]] [] = some (.ret (.tup [.e (.sl 46 []), .e (.int .i64 0), .e (.int .i64 29)]), []) := by kernel_rfl
theorem run6 : runK Tryz.prog HO 90 none 23 [.e (.sl 46 [.agg [.str [115], .str [97, 47, 35], .int .i64 2, .sl 31 [.agg [.int .i64 6, .int .i64 0, .int .i64 0, .sl 9 [], .sl 31 [], .sl 65 [.agg [.str [97], .bool false, .int .i64 1, .int .i64 0, .int .i64 9, .sl 9 [], .sl 31 [], .sl 65 []]]], .agg [.int .i64 6, .int .i64 0, .int .i64 0, .sl 9 [], .sl 31 [], .sl 65 [.agg [.str [97], .bool false, .int .i64 1, .int .i64 0, .int .i64 9, .sl 9 [], .sl 31 [], .sl 65 []], .agg [.str [98], .bool true, .int .i64 1, .int .i64 0, .int .i64 9, .sl 9 [], .sl 31 [], .sl 65 []]]]]]]), .e (.str [97, 47, 120])] [] = some (.ret (.tup [.agg [.e (.str [115]), .e (.str [97, 47, 35]), .e (.int .i64 2), .e (.sl 31 [.agg [.int .i64 6, .int .i64 0, .int .i64 0, .sl 9 [], .sl 31 [], .sl 65 [.agg [.str [97], .bool false, .int .i64 1, .int .i64 0, .int .i64 9, .sl 9 [], .sl 31 [], .sl 65 []]]], .agg [.int .i64 6, .int .i64 0, .int .i64 0, .sl 9 [], .sl 31 [], .sl 65 [.agg [.str [97], .bool false, .int .i64 1, .int .i64 0, .int .i64 9, .sl 9 [], .sl 31 [], .sl 65 []], .agg [.str [98], .bool true, .int .i64 1, .int .i64 0, .int .i64 9, .sl 9 [], .sl 31 [], .sl 65 []]]]])], .e (.bool true)]), []) := by kernel_rfl
theorem run7 : runK Tryz.prog HO 90 none 26 [.e (.sl 46 [.agg [.str [115], .str [97, 47, 35], .int .i64 2, .sl 31 [.agg [.int .i64 6, .int .i64 0, .int .i64 0, .sl 9 [], .sl 31 [], .sl 65 [.agg [.str [97], .bool false, .int .i64 1, .int .i64 0, .int .i64 9, .sl 9 [], .sl 31 [], .sl 65 []]]], .agg [.int .i64 6, .int .i64 0, .int .i64 0, .sl 9 [], .sl 31 [], .sl 65 [.agg [.str [97], .bool false, .int .i64 1, .int .i64 0, .int .i64 9, .sl 9 [], .sl 31 [], .sl 65 []], .agg [.str [98], .bool true, .int .i64 1, .int .i64 0, .int .i64 9, .sl 9 [], .sl 31 [], .sl 65 []]]]]]]), .agg [.e (.str [97]), .e (.str [123, 97, 58, 49, 44, 98, 58, 50, 125]), .e (.int .i64 0), .e (.bool false), .e (.int .i64 0), .e (.int .i64 0), .e (.str []), .e (.int .i64 0), .e (.sl 186 [])]] [] = some (.ret (.e (.int .i64 0)), []) := by kernel_rfl
theorem run8 : runK Tryz.prog HO 90 none 26 [.e (.sl 46 [.agg [.str [115], .str [97, 47, 35], .int .i64 2, .sl 31 [.agg [.int .i64 6, .int .i64 0, .int .i64 0, .sl 9 [], .sl 31 [], .sl 65 [.agg [.str [97], .bool false, .int .i64 1, .int .i64 0, .int .i64 9, .sl 9 [], .sl 31 [], .sl 65 []]]], .agg [.int .i64 6, .int .i64 0, .int .i64 0, .sl 9 [], .sl 31 [], .sl 65 [.agg [.str [97], .bool false, .int .i64 1, .int .i64 0, .int .i64 9, .sl 9 [], .sl 31 [], .sl 65 []], .agg [.str [98], .bool true, .int .i64 1, .int .i64 0, .int .i64 9, .sl 9 [], .sl 31 [], .sl 65 []]]]]]]), .agg [.e (.str [97]), .e (.str [123, 98, 58, 50, 125]), .e (.int .i64 0), .e (.bool false), .e (.int .i64 0), .e (.int .i64 0), .e (.str []), .e (.int .i64 0), .e (.sl 186 [])]] [] = some (.ret (.e (.int .i64 19)), []) := by kernel_rfl
theorem run9 : runK Tryz.prog HO 90 none 12 [.e (.sl 46 [.agg [.str [115], .str [97, 47, 35], .int .i64 2, .sl 31 [.agg [.int .i64 6, .int .i64 0, .int .i64 0, .sl 9 [], .sl 31 [], .sl 65 [.agg [.str [97], .bool false, .int .i64 1, .int .i64 0, .int .i64 9, .sl 9 [], .sl 31 [], .sl 65 []]]], .agg [.int .i64 6, .int .i64 0, .int .i64 0, .sl 9 [], .sl 31 [], .sl 65 [.agg [.str [97], .bool false, .int .i64 1, .int .i64 0, .int .i64 9, .sl 9 [], .sl 31 [], .sl 65 []], .agg [.str [98], .bool true, .int .i64 1, .int .i64 0, .int .i64 9, .sl 9 [], .sl 31 [], .sl 65 []]]]]]])] [] = some (.ret (.e (.int .i64 0)), []) := by kernel_rfl

def tabR : Tab := [
  (21, [.e (.sl 46 [.agg [.str [115], .str [97, 47, 35], .int .i64 2, .sl 31 []]]), .e (.str [115]), .agg [.e (.int .i64 6), .e (.int .i64 0), .e (.int .i64 0), .e (.sl 9 []), .e (.sl 31 []), .e (.sl 65 [.agg [.str [97], .bool false, .int .i64 1, .int .i64 0, .int .i64 9, .sl 9 [], .sl 31 [], .sl 65 []]])]], .ret (.tup [.e (.sl 46 [.agg [.str [115], .str [97, 47, 35], .int .i64 2, .sl 31 [.agg [.int .i64 6, .int .i64 0, .int .i64 0, .sl 9 [], .sl 31 [], .sl 65 [.agg [.str [97], .bool false, .int .i64 1, .int .i64 0, .int .i64 9, .sl 9 [], .sl 31 [], .sl 65 []]]]]]]), .e (.int .i64 1), .e (.int .i64 0)])),
  (21, [.e (.sl 46 [.agg [.str [115], .str [97, 47, 35], .int .i64 2, .sl 31 [.agg [.int .i64 6, .int .i64 0, .int .i64 0, .sl 9 [], .sl 31 [], .sl 65 [.agg [.str [97], .bool false, .int .i64 1, .int .i64 0, .int .i64 9, .sl 9 [], .sl 31 [], .sl 65 []]]]]]]), .e (.str [115]), .agg [.e (.int .i64 6), .e (.int .i64 0), .e (.int .i64 0), .e (.sl 9 []), .e (.sl 31 []), .e (.sl 65 [.agg [.str [97], .bool false, .int .i64 1, .int .i64 0, .int .i64 9, .sl 9 [], .sl 31 [], .sl 65 []], .agg [.str [98], .bool true, .int .i64 1, .int .i64 0, .int .i64 9, .sl 9 [], .sl 31 [], .sl 65 []]])]], .ret (.tup [.e (.sl 46 [.agg [.str [115], .str [97, 47, 35], .int .i64 2, .sl 31 [.agg [.int .i64 6, .int .i64 0, .int .i64 0, .sl 9 [], .sl 31 [], .sl 65 [.agg [.str [97], .bool false, .int .i64 1, .int .i64 0, .int .i64 9, .sl 9 [], .sl 31 [], .sl 65 []]]], .agg [.int .i64 6, .int .i64 0, .int .i64 0, .sl 9 [], .sl 31 [], .sl 65 [.agg [.str [97], .bool false, .int .i64 1, .int .i64 0, .int .i64 9, .sl 9 [], .sl 31 [], .sl 65 []], .agg [.str [98], .bool true, .int .i64 1, .int .i64 0, .int .i64 9, .sl 9 [], .sl 31 [], .sl 65 []]]]]]]), .e (.int .i64 2), .e (.int .i64 0)])),
  (21, [.e (.sl 46 [.agg [.str [115], .str [97, 47, 35], .int .i64 2, .sl 31 [.agg [.int .i64 6, .int .i64 0, .int .i64 0, .sl 9 [], .sl 31 [], .sl 65 [.agg [.str [97], .bool false, .int .i64 1, .int .i64 0, .int .i64 9, .sl 9 [], .sl 31 [], .sl 65 []]]], .agg [.int .i64 6, .int .i64 0, .int .i64 0, .sl 9 [], .sl 31 [], .sl 65 [.agg [.str [97], .bool false, .int .i64 1, .int .i64 0, .int .i64 9, .sl 9 [], .sl 31 [], .sl 65 []], .agg [.str [98], .bool true, .int .i64 1, .int .i64 0, .int .i64 9, .sl 9 [], .sl 31 [], .sl 65 []]]]]]]), .e (.str [115]), .agg [.e (.int .i64 6), .e (.int .i64 0), .e (.int .i64 0), .e (.sl 9 []), .e (.sl 31 []), .e (.sl 65 [.agg [.str [97], .bool false, .int .i64 1, .int .i64 0, .int .i64 9, .sl 9 [], .sl 31 [], .sl 65 []]])]], .ret (.tup [.e (.sl 46 []), .e (.int .i64 0), .e (.int .i64 29)]))]
theorem tabRAll : TabAll Tryz.prog HR tabR := by
  intro p hp
  simp only [tabR, List.mem_cons, List.not_mem_nil, or_false] at hp
  rcases hp with rfl | rfl | rfl
  · exact ⟨90, run2⟩
  · exact ⟨90, run4⟩
  · exact ⟨90, run5⟩

def tabO : Tab := [
  (18, [.e (.sl 46 []), .e (.str [115]), .e (.str [97, 47, 35]), .e (.int .i64 2)], .ret (.tup [.e (.sl 46 [.agg [.str [115], .str [97, 47, 35], .int .i64 2, .sl 31 []]]), .e (.int .i64 0)])),
  (29, [.e (.bool false)], .ret (.agg [.e (.int .i64 6), .e (.int .i64 0), .e (.int .i64 0), .e (.sl 9 []), .e (.sl 31 []), .e (.sl 65 [.agg [.str [97], .bool false, .int .i64 1, .int .i64 0, .int .i64 9, .sl 9 [], .sl 31 [], .sl 65 []]])])),
  (29, [.e (.bool true)], .ret (.agg [.e (.int .i64 6), .e (.int .i64 0), .e (.int .i64 0), .e (.sl 9 []), .e (.sl 31 []), .e (.sl 65 [.agg [.str [97], .bool false, .int .i64 1, .int .i64 0, .int .i64 9, .sl 9 [], .sl 31 [], .sl 65 []], .agg [.str [98], .bool true, .int .i64 1, .int .i64 0, .int .i64 9, .sl 9 [], .sl 31 [], .sl 65 []]])])),
  (23, [.e (.sl 46 [.agg [.str [115], .str [97, 47, 35], .int .i64 2, .sl 31 [.agg [.int .i64 6, .int .i64 0, .int .i64 0, .sl 9 [], .sl 31 [], .sl 65 [.agg [.str [97], .bool false, .int .i64 1, .int .i64 0, .int .i64 9, .sl 9 [], .sl 31 [], .sl 65 []]]], .agg [.int .i64 6, .int .i64 0, .int .i64 0, .sl 9 [], .sl 31 [], .sl 65 [.agg [.str [97], .bool false, .int .i64 1, .int .i64 0, .int .i64 9, .sl 9 [], .sl 31 [], .sl 65 []], .agg [.str [98], .bool true, .int .i64 1, .int .i64 0, .int .i64 9, .sl 9 [], .sl 31 [], .sl 65 []]]]]]]), .e (.str [97, 47, 120])], .ret (.tup [.agg [.e (.str [115]), .e (.str [97, 47, 35]), .e (.int .i64 2), .e (.sl 31 [.agg [.int .i64 6, .int .i64 0, .int .i64 0, .sl 9 [], .sl 31 [], .sl 65 [.agg [.str [97], .bool false, .int .i64 1, .int .i64 0, .int .i64 9, .sl 9 [], .sl 31 [], .sl 65 []]]], .agg [.int .i64 6, .int .i64 0, .int .i64 0, .sl 9 [], .sl 31 [], .sl 65 [.agg [.str [97], .bool false, .int .i64 1, .int .i64 0, .int .i64 9, .sl 9 [], .sl 31 [], .sl 65 []], .agg [.str [98], .bool true, .int .i64 1, .int .i64 0, .int .i64 9, .sl 9 [], .sl 31 [], .sl 65 []]]]])], .e (.bool true)])),
  (26, [.e (.sl 46 [.agg [.str [115], .str [97, 47, 35], .int .i64 2, .sl 31 [.agg [.int .i64 6, .int .i64 0, .int .i64 0, .sl 9 [], .sl 31 [], .sl 65 [.agg [.str [97], .bool false, .int .i64 1, .int .i64 0, .int .i64 9, .sl 9 [], .sl 31 [], .sl 65 []]]], .agg [.int .i64 6, .int .i64 0, .int .i64 0, .sl 9 [], .sl 31 [], .sl 65 [.agg [.str [97], .bool false, .int .i64 1, .int .i64 0, .int .i64 9, .sl 9 [], .sl 31 [], .sl 65 []], .agg [.str [98], .bool true, .int .i64 1, .int .i64 0, .int .i64 9, .sl 9 [], .sl 31 [], .sl 65 []]]]]]]), .agg [.e (.str [97]), .e (.str [123, 97, 58, 49, 44, 98, 58, 50, 125]), .e (.int .i64 0), .e (.bool false), .e (.int .i64 0), .e (.int .i64 0), .e (.str []), .e (.int .i64 0), .e (.sl 186 [])]], .ret (.e (.int .i64 0))),
  (26, [.e (.sl 46 [.agg [.str [115], .str [97, 47, 35], .int .i64 2, .sl 31 [.agg [.int .i64 6, .int .i64 0, .int .i64 0, .sl 9 [], .sl 31 [], .sl 65 [.agg [.str [97], .bool false, .int .i64 1, .int .i64 0, .int .i64 9, .sl 9 [], .sl 31 [], .sl 65 []]]], .agg [.int .i64 6, .int .i64 0, .int .i64 0, .sl 9 [], .sl 31 [], .sl 65 [.agg [.str [97], .bool false, .int .i64 1, .int .i64 0, .int .i64 9, .sl 9 [], .sl 31 [], .sl 65 []], .agg [.str [98], .bool true, .int .i64 1, .int .i64 0, .int .i64 9, .sl 9 [], .sl 31 [], .sl 65 []]]]]]]), .agg [.e (.str [97]), .e (.str [123, 98, 58, 50, 125]), .e (.int .i64 0), .e (.bool false), .e (.int .i64 0), .e (.int .i64 0), .e (.str []), .e (.int .i64 0), .e (.sl 186 [])]], .ret (.e (.int .i64 19))),
  (12, [.e (.sl 46 [.agg [.str [115], .str [97, 47, 35], .int .i64 2, .sl 31 [.agg [.int .i64 6, .int .i64 0, .int .i64 0, .sl 9 [], .sl 31 [], .sl 65 [.agg [.str [97], .bool false, .int .i64 1, .int .i64 0, .int .i64 9, .sl 9 [], .sl 31 [], .sl 65 []]]], .agg [.int .i64 6, .int .i64 0, .int .i64 0, .sl 9 [], .sl 31 [], .sl 65 [.agg [.str [97], .bool false, .int .i64 1, .int .i64 0, .int .i64 9, .sl 9 [], .sl 31 [], .sl 65 []], .agg [.str [98], .bool true, .int .i64 1, .int .i64 0, .int .i64 9, .sl 9 [], .sl 31 [], .sl 65 []]]]]]])], .ret (.e (.int .i64 0)))]
theorem tabOAll : TabAll Tryz.prog HO tabO := by
  intro p hp
  simp only [tabO, List.mem_cons, List.not_mem_nil, or_false] at hp
  rcases hp with rfl | rfl | rfl | rfl | rfl | rfl | rfl
  · exact ⟨90, run0⟩
  · exact ⟨90, run1⟩
  · exact ⟨90, run3⟩
  · exact ⟨90, run6⟩
  · exact ⟨90, run7⟩
  · exact ⟨90, run8⟩
  · exact ⟨90, run9⟩

def primA (md : Den.Mode) (f : FuncId) : Option (List AV → Heap → T) :=
  match md with
  | some _ => none
  | none => if [12, 18, 23, 26, 29].contains f then some (tabG f tabO) else if f = 21 then some (tabG f tabR) else none
def HA : Hints := { prim := primA, live := liveX, pans := fun _ => true, outs := fun _ _ => [], post := fun _ => none, exact := true }
theorem runAwake : runK Tryz.prog HA 9 none 11 [] [] = some (.ret (.e (.bool true)), []) := by kernel_rfl

theorem mixed : Tryz.prog.follows .mixedOrders = true := by kernel_rfl
theorem named : Named Tryz.prog := by
  have h : (Tryz.prog.funcs.toList.all fun fn => !(fn.name == "runtime.NumGoroutine")) = true := by kernel_rfl
  intro f fn hf
  have := List.all_eq_true.1 h fn (List.mem_of_getElem? (i := f) (by simpa using hf))
  simpa using this
theorem primsX (a m : FuncId → Bool) : PrimOk Tryz.prog (HX a m) := by
  intro md f g args σ r σ' h hq
  change primX md f = some g at h
  unfold primX at h
  split at h
  · cases h
  · split at h
    · injection h with h; subst h; exact Tryz.string_prim args σ r σ' hq
    · injection h with h; subst h; exact Tryz.itoa_prim args σ r σ' hq
    · injection h with h; subst h; exact Tryz.copy_prim args σ r σ' hq
    · injection h with h; subst h; exact Tryz.split_prim args σ r σ' hq
    · injection h with h; subst h; exact Tryz.clone_prim args σ r σ' hq
    · cases h
theorem primsA : PrimOk Tryz.prog HA := by
  intro md f g args σ r σ' h hq
  change primA md f = some g at h
  unfold primA at h
  split at h
  · cases h
  · split at h
    · injection h with h; subst h
      exact tab_prim mixed named (primsX _ _) tabOAll f args σ r σ' hq
    · split at h
      · injection h with h; subst h
        exact tab_prim mixed named (primsX _ _) tabRAll f args σ r σ' hq
      · cases h

theorem awake_prim : PrimFor Tryz.prog 11 trueG := by
  intro args σ r σ' h
  unfold trueG at h
  split at h
  · rw [quick_res] at h
    injection h with h; injection h with h1 h2
    subst h1; subst h2
    exact (runK_ok mixed named primsA 9).1 none 11 [] [] _ [] runAwake
  · cases h
end Go.Proofs.YtapndkailgcboaaGreatDoor.Awa
